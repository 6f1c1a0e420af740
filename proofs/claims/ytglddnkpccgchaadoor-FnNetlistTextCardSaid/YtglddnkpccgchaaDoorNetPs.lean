/- The program's netNumbers. -/
import Derived.Test.YtglddnkpccgchaaDoorRdD
import Derived.Test.YtglddnkpccgchaaDoorValid0
import Derived.Test.YtglddnkpccgchaaDoorBoxN
import Derived.Test.YtglddnkpccgchaaDoorSpecW
import Derived.Test.YtglddnkpccgchaaDoorTakeL
import Derived.Test.YtglddnkpccgchaaDoorImplNl
namespace Go.Proofs.YtglddnkpccgchaaDoor
open Go.RowKit
set_option linter.unusedVariables false
set_option linter.unusedSimpArgs false

/-- So many numbers were read. -/
def cntB : Option (List Int) → Int → Bool
  | some zs, c => (zs.length : Int) == c
  | none, _ => false

set_option maxRecDepth 100000 in
set_option maxHeartbeats 2000000 in
theorem netNumbers_any (v : Value) (ss : List ByteArray) (cnt : Int) (B : Nat) (w : World) (h : StrSl w v ss) (hs : ∀ x ∈ ss, x.size ≤ 1048576) (hl : ss.length ≤ 1048577) (hB : B ≤ w.heap.size) (hG : Glob B w) :
    Calls Tryd.prog 69 #[v, .int .i64 cnt] w fun e w' => ∃ v', e = .returned (.tuple #[v', .bool (cntB (numsL (lsts ss)) cnt)]) ∧ (∀ zs, numsL (lsts ss) = some zs → BldI w' w.heap.size w'.heap.size v' zs) ∧ Below w.heap.size w w' := by
  have HST := Lib.hid h
  have HSZ := Lib.hid hs
  have HRD := Lib.hid (fun s w h hB hG => readDecimal_any s B w h hB hG)
  have HNX := Lib.hid (fun i l d n => @numsL_next (lsts ss) i l d n)
  have HNS := Lib.hid (fun i l => @numsL_stop (lsts ss) i l)
  have HAT := Lib.hid (fun (i : Nat) (x : ByteArray) (h : ss[i]? = some x) => show (lsts ss)[i]? = some x.data.toList from by unfold lsts; rw [List.getElem?_map, h]; rfl)
  have HTK : Hid ((lsts ss).take ss.length = lsts ss) := Lib.hid (List.take_of_length_le (by simp [lsts]))
  generalize lsts ss = L at *
  obtain ⟨a, c, rfl⟩ := h.sized
  obtain ⟨n, hn⟩ : ∃ n, ss.length = n := ⟨_, rfl⟩
  rw [hn] at HST HTK hl ⊢
  have HN := Lib.hid hn
  have HG := Lib.hid hG
  clear h hs hn hG
  go_enter Tryd.func69, Tryd.ntmps69
  go_wp2
  go_loopw [6, 8, 9, 10, 14] (fun u v8 v9 v10 vi wr => ∃ (i hi : Nat) (d : List Int), vi = .int .i64 (i : Int) ∧ i ≤ n ∧ Hid (numsL (L.take i) = some d) ∧ Hid (d.length = i) ∧ Hid (BldI wr w.heap.size hi u d) ∧ w.heap.size < hi ∧ Below w.heap.size w wr) (fun _ _ _ _ vi _ => n - (intOf vi).toNat)
  case atStart =>
    refine ⟨0, w.heap.size + 1, [], rfl, Nat.zero_le _, Lib.hid rfl, Lib.hid rfl, Lib.hid ?_, by omega, (by ((repeat (first | (with_reducible exact Below.refl _ _) | (with_reducible refine below_drewN ?_ _) | (with_reducible refine Below.drew ?_) | (with_reducible refine below_al ?_ _) | (with_reducible refine below_on (by assumption) ?_) | ((with_reducible refine Below.setCell ?_ ?_ _); rotate_left; focus (first | omega | (simp; done) | (simp; omega))) | (with_reducible assumption))); done))⟩
    have hB : Blk (w.alloc (.cells #[] 2)) w.heap.size #[] 2 := Blk.new _ rfl
    exact BldI.lit (zs := []) hB rfl (by simp) (Nat.le_refl _) (by omega) (by simp)
  case round =>
    obtain ⟨i, hi, d, rfl, hin, HD, HDL, HB, hhi, hb⟩ := hrel
    obtain ⟨a3, c3, rfl⟩ := HB.out.sized
    rw [HDL.out] at HB ⊢
    have hIs := HB.out.1
    have hzr := hb.size
    by_cases hlt : i < n
    · obtain ⟨x, hx⟩ : ∃ x, ss[i]? = some x := ⟨_, List.getElem?_eq_getElem (by rw [HN.out]; exact hlt)⟩
      rcases HST.out with ⟨_, _, e1, e2⟩ | ⟨g, o, cap, e1, e2, e3, e4⟩
      · exfalso
        have := HN.out
        rw [e2] at this
        simp at this
        omega
      rw [HN.out] at e1
      obtain ⟨rfl, rfl⟩ : a = some ⟨g, o, none⟩ ∧ c = cap := by simpa using e1
      have p1 := cell_by' hb (e4 i x hx)
      have HP := Lib.hid (HRD.out x wr (HSZ.out x (List.mem_of_getElem? hx)) (by omega) (HG.out.by hb hB))
      have HXA := Lib.hid (HAT.out i x hx)
      have i1 : (0 : Int) ≤ (i : Int) := by omega
      have i2 : (i : Int) < (n : Int) := by omega
      have HLT := Lib.hid hlt
      have hlp := lt_of_cell p1
      clear hx e1 e2 e3 e4
      match hrd : rdD x.data.toList with
      | none =>
        have HNO := Lib.hid (HNS.out i _ HXA.out (rd_no hrd))
        rw [hrd] at HP
        simp only [Option.getD_none, Option.isSome_none] at HP
        clear hrd
        go_wp2_with fail
        refine HP.out.mono ?_
        rintro e w1 ⟨rfl, hb1⟩
        have hbn : Below w.heap.size w w1 := below_on hb1 hb
        clear hlp p1 hb1 hb
        go_wp2
        refine bodyPost_ret (v := .tuple #[.slice none 0 0, .bool false]) (by simp [results, Tryd.results69, go_sem, *]) rfl ⟨_, by rw [HNO.out]; rfl, (by rw [HNO.out]; intro zs h; cases h), hbn⟩
      | some z =>
        rw [hrd] at HP
        simp only [Option.getD_some, Option.isSome_some] at HP
        by_cases hz : 0 ≤ z ∧ z ≤ 9999999
        · have hyes := HNX.out i _ d _ HD.out HXA.out (rd_yes hrd hz)
          rw [Int.toNat_of_nonneg hz.1] at hyes
          have HYES := Lib.hid hyes
          have hin1 : inB z 0 9999999 = true := by simp [inB, hz.1, hz.2]
          clear hyes hrd hz
          go_wp2_with fail
          refine HP.out.mono ?_
          rintro e w1 ⟨rfl, hb1⟩
          have HB1 := Lib.hid (HB.out.by hb1)
          have hs1 := hb1.size
          have hbn : Below w.heap.size w w1 := below_on hb1 hb
          clear hb1 HB hlp p1 hb
          go_wp2_with fail
          refine (within_any _ _ _ _).mono ?_
          rintro e w' ⟨rfl, rfl⟩
          rw [hin1]
          clear hin1
          go_wp2_with (refine list_pushI (by rfl) _ _ (by rfl) w.heap.size hi (.slice a3 i c3) d [z] (by rfl) (HB1.out.by (by ((repeat (first | (with_reducible exact Below.refl _ _) | (with_reducible refine below_drewN ?_ _) | (with_reducible refine Below.drew ?_) | (with_reducible refine below_al ?_ _) | (with_reducible refine below_on (by assumption) ?_) | ((with_reducible refine Below.setCell ?_ ?_ _); rotate_left; focus (first | omega | (simp; done) | (simp; omega))) | (with_reducible assumption))); done))) w1.heap.size 1 #[.int .i64 z] (by rfl) (by rfl) (by omega) (Blk.new _ rfl) (by rfl) (by omega) (by rw [HDL.out]; omega) ?_; intro a5 c5 w5 hB5 hw5; have HB5 := Lib.hid hB5; rw [HDL.out]; clear hB5)
          have hsz := hw5.size
          simp only [World.size_alloc] at hsz
          refine ⟨⟨i + 1, w5.heap.size, d ++ [z], by go_num, by have := HLT.out; omega, HYES, Lib.hid (by simp [HDL.out]), Lib.hid ?_, by omega, hw5.below (below_al hbn _) (by omega)⟩, by have := HLT.out; simp [intOf]; omega⟩
          have := HB5.out
          rw [HDL.out] at this
          exact this
        · have HNO := Lib.hid (HNS.out i _ HXA.out (rd_out hrd hz))
          have hin1 : inB z 0 9999999 = false := by
            cases h : inB z 0 9999999 with
            | false => rfl
            | true => exact absurd (inB_iff.1 h) hz
          clear hrd hz
          go_wp2_with fail
          refine HP.out.mono ?_
          rintro e w1 ⟨rfl, hb1⟩
          have hbn : Below w.heap.size w w1 := below_on hb1 hb
          clear hlp p1 hb1 hb
          go_wp2_with fail
          refine (within_any _ _ _ _).mono ?_
          rintro e w' ⟨rfl, rfl⟩
          rw [hin1]
          clear hin1
          go_wp2
          refine bodyPost_ret (v := .tuple #[.slice none 0 0, .bool false]) (by simp [results, Tryd.results69, go_sem, *]) rfl ⟨_, by rw [HNO.out]; rfl, (by rw [HNO.out]; intro zs h; cases h), hbn⟩
    · obtain rfl : i = n := by omega
      have hd := HD.out
      rw [HTK.out] at hd
      have i1 : ¬ (i : Int) < (i : Int) := by omega
      have HB2 := Lib.hid (show BldI wr w.heap.size wr.heap.size (.slice a3 i c3) d from ⟨Nat.le_refl _, HB.out.2.1, fun g hg => by have := HB.out.2.2 g hg; omega⟩)
      have HDD := Lib.hid hd
      clear hd HB
      go_wp2
      refine bodyPost_ret (v := .tuple #[.slice a3 i c3, .bool ((i : Int) == cnt)]) (by simp [results, Tryd.results69, go_sem, *]) rfl ⟨_, by rw [HDD.out, cntB, HDL.out], (by rw [HDD.out]; intro zs h; cases h; exact HB2.out), hb⟩
end Go.Proofs.YtglddnkpccgchaaDoor

/- The program's netLine, at the ways without a drawn region. -/
namespace Go.Proofs.YtglddnkpccgchaaDoor
open Go.RowKit
set_option linter.unusedVariables false
set_option linter.unusedSimpArgs false

set_option maxRecDepth 100000 in
set_option maxHeartbeats 2000000 in
theorem netl_a (x : Nl) (s s0 : ByteArray) (r : List ByteArray) (NB B lo : Nat) (w : World) (hW : wrdS 32 s = s0 :: r) (hs : s.size ≤ 1048576) (hx : BoxN w NB lo x) (hG : Glob B w) (hB : B ≤ NB) (hk : ¬ s0.data.toList = wNetsL) :
    Calls Tryd.prog 37 #[.pointer (some ⟨NB, 0, none⟩), .string s, .bool true] w fun e w' => e = .returned (.bool (lineL true x (lsts (s0 :: r))).isSome) ∧ (∀ y, lineL true x (lsts (s0 :: r)) = some y → BoxN w' NB lo y) ∧ Below NB w w' := by
  have HL : Hid (lineL true x (lsts (s0 :: r)) = none) := Lib.hid (by
    unfold lsts lineL
    simp only [List.map_cons, hk, if_false, if_true])
  have hnb := hx.lt
  have HSP := Lib.hid (fun w hG => strings_Split_any s B w hs hG)
  have HW := Lib.hid hW
  have HX := Lib.hid hx
  have HG := Lib.hid hG
  have hsw := wrd_size 32 s
  rw [hW] at hsw
  have HWZ : Hid (∀ y ∈ s0 :: r, y.size ≤ 1048576) := Lib.hid (fun y hy => by have := hsw.1 y hy; omega)
  have hrl : r.length ≤ 1048576 := by have := hsw.2.1; simp at this; omega
  have e0 := nets_word s0
  rw [decide_eq_false hk] at e0
  have e1 : (0 : Int) < ((r.length + 1 : Nat) : Int) := by omega
  clear hk
  clear hx hG hW hsw
  go_enter Tryd.func37, Tryd.ntmps37
  go_wp2_with fail
  refine (HSP.out w HG.out).mono ?_
  rintro e w1 ⟨rfl, hst, hb1⟩
  rw [HW.out] at hst ⊢
  rw [show (s0 :: r).length = r.length + 1 from rfl] at hst ⊢
  have q0 : w1.cell? ⟨w.heap.size, 0, none⟩ = some (.string s0) := str_cell hst 0 s0 rfl
  have lg := lt_of_cell q0
  dsimp only at lg
  have hbN : Below NB w w1 := ⟨hb1.os, hb1.tape, hb1.output, hb1.size, fun k hk => hb1.block k (by omega)⟩
  clear hst
  go_wp2
  refine bodyPost_ret (v := .bool false) (by simp [results, Tryd.results37, go_sem, *]) rfl ⟨by rw [HL.out]; rfl, fun y hy => (by rw [HL.out] at hy; cases hy), hbN⟩

set_option maxRecDepth 100000 in
set_option maxHeartbeats 2000000 in
theorem netl_b (x : Nl) (s s0 : ByteArray) (r : List ByteArray) (NB B lo : Nat) (w : World) (hW : wrdS 32 s = s0 :: r) (hs : s.size ≤ 1048576) (hx : BoxN w NB lo x) (hG : Glob B w) (hB : B ≤ NB) (hk : s0.data.toList = wNetsL) :
    Calls Tryd.prog 37 #[.pointer (some ⟨NB, 0, none⟩), .string s, .bool false] w fun e w' => e = .returned (.bool (lineL false x (lsts (s0 :: r))).isSome) ∧ (∀ y, lineL false x (lsts (s0 :: r)) = some y → BoxN w' NB lo y) ∧ Below NB w w' := by
  have HL : Hid (lineL false x (lsts (s0 :: r)) = none) := Lib.hid (by
    unfold lsts lineL
    simp only [List.map_cons, hk, Bool.false_eq_true, if_false]
    rw [if_neg (by decide)]
    rfl)
  have hnb := hx.lt
  have HSP := Lib.hid (fun w hG => strings_Split_any s B w hs hG)
  have HW := Lib.hid hW
  have HX := Lib.hid hx
  have HG := Lib.hid hG
  have hsw := wrd_size 32 s
  rw [hW] at hsw
  have HWZ : Hid (∀ y ∈ s0 :: r, y.size ≤ 1048576) := Lib.hid (fun y hy => by have := hsw.1 y hy; omega)
  have hrl : r.length ≤ 1048576 := by have := hsw.2.1; simp at this; omega
  have e0 := nets_word s0
  rw [decide_eq_true hk] at e0
  have e1 : (0 : Int) < ((r.length + 1 : Nat) : Int) := by omega
  clear hk
  clear hx hG hW hsw
  go_enter Tryd.func37, Tryd.ntmps37
  go_wp2_with fail
  refine (HSP.out w HG.out).mono ?_
  rintro e w1 ⟨rfl, hst, hb1⟩
  rw [HW.out] at hst ⊢
  rw [show (s0 :: r).length = r.length + 1 from rfl] at hst ⊢
  have q0 : w1.cell? ⟨w.heap.size, 0, none⟩ = some (.string s0) := str_cell hst 0 s0 rfl
  have lg := lt_of_cell q0
  dsimp only at lg
  have hbN : Below NB w w1 := ⟨hb1.os, hb1.tape, hb1.output, hb1.size, fun k hk => hb1.block k (by omega)⟩
  clear hst
  go_wp2
  refine bodyPost_ret (v := .bool false) (by simp [results, Tryd.results37, go_sem, *]) rfl ⟨by rw [HL.out]; rfl, fun y hy => (by rw [HL.out] at hy; cases hy), hbN⟩

set_option maxRecDepth 100000 in
set_option maxHeartbeats 2000000 in
theorem netl_n (x : Nl) (s s0 : ByteArray) (r : List ByteArray) (NB B lo : Nat) (w : World) (hW : wrdS 32 s = s0 :: r) (hs : s.size ≤ 1048576) (hx : BoxN w NB lo x) (hG : Glob B w) (hB : B ≤ NB) (hk : s0.data.toList = wNetsL) :
    Calls Tryd.prog 37 #[.pointer (some ⟨NB, 0, none⟩), .string s, .bool true] w fun e w' => e = .returned (.bool (lineL true x (lsts (s0 :: r))).isSome) ∧ (∀ y, lineL true x (lsts (s0 :: r)) = some y → BoxN w' NB lo y) ∧ Below NB w w' := by
  have HL : Hid (lineL true x (lsts (s0 :: r)) = (match numsL (lsts r) with | some [z] => some { x with nets := z } | _ => none)) := Lib.hid ((show lineL true x (lsts (s0 :: r)) = if s0.data.toList = wNetsL then (match numsL (lsts r) with | some [z] => some { x with nets := z } | _ => none) else none from rfl).trans (if_pos hk))
  have hnb := hx.lt
  have HSP := Lib.hid (fun w hG => strings_Split_any s B w hs hG)
  have HW := Lib.hid hW
  have HX := Lib.hid hx
  have HG := Lib.hid hG
  have hsw := wrd_size 32 s
  rw [hW] at hsw
  have HWZ : Hid (∀ y ∈ s0 :: r, y.size ≤ 1048576) := Lib.hid (fun y hy => by have := hsw.1 y hy; omega)
  have hrl : r.length ≤ 1048576 := by have := hsw.2.1; simp at this; omega
  have e0 := nets_word s0
  rw [decide_eq_true hk] at e0
  have HNU := Lib.hid (fun v ss cnt w h hs hl hB hG => netNumbers_any v ss cnt B w h hs hl hB hG)
  clear hk
  clear hx hG hW hsw
  go_enter Tryd.func37, Tryd.ntmps37
  go_wp2_with fail
  refine (HSP.out w HG.out).mono ?_
  rintro e w1 ⟨rfl, hst, hb1⟩
  rw [HW.out] at hst ⊢
  rw [show (s0 :: r).length = r.length + 1 from rfl] at hst ⊢
  have q0 : w1.cell? ⟨w.heap.size, 0, none⟩ = some (.string s0) := str_cell hst 0 s0 rfl
  have lg := lt_of_cell q0
  dsimp only at lg
  have hbN : Below NB w w1 := ⟨hb1.os, hb1.tape, hb1.output, hb1.size, fun k hk => hb1.block k (by omega)⟩
  obtain ⟨k, hk0⟩ : ∃ k, r.length = k := ⟨_, rfl⟩
  obtain ⟨-, hc1, hwt⟩ := hst.tail
  rw [hk0] at hwt hrl ⊢
  rw [show k + 1 - 1 = k by omega] at hwt
  have hcase : (k = 0 ∧ StrSl w1 (.slice (some ⟨w.heap.size, 0, none⟩) 0 0) r) ∨ (¬ k = 0 ∧ StrSl w1 (.slice (some ⟨w.heap.size, 1, none⟩) k k) r) := by
    by_cases h : k = 0
    · exact .inl ⟨h, .inl ⟨some ⟨w.heap.size, 0, none⟩, 0, rfl, List.eq_nil_of_length_eq_zero (by omega)⟩⟩
    · exact .inr ⟨h, hwt⟩
  have HK0 := Lib.hid hk0
  have e8 : (0 : Int) < ((k + 1 : Nat) : Int) := by omega
  clear hwt hst hk0
  rcases hcase with ⟨hcz, hwt⟩ | ⟨hcz, hwt⟩
  all_goals
    have HWT := Lib.hid hwt
    clear hwt
    go_wp2_with fail
    refine (HNU.out _ r 1 w1 HWT.out (fun y hy => HWZ.out y (List.mem_cons_of_mem _ hy)) (by have := HK0.out; omega) (by omega) (HG.out.by hb1 (by omega))).mono ?_
    rintro e w2 ⟨v2, rfl, hzs, hb2⟩
    have hbM : Below NB w w2 := hbN.trans ⟨hb2.os, hb2.tape, hb2.output, hb2.size, fun k hk => hb2.block k (by omega)⟩
    have HX2 := Lib.hid ((HX.out.by hb1).by hb2)
    have hNBl : NB < w2.heap.size := by have := HX2.out.lt; omega
    clear hb1 q0 lg HWT
    match hn : numsL (lsts r) with
    | none =>
      rw [hn] at HL
      simp only [cntB]
      clear hn hzs hb2
      go_wp2
      refine bodyPost_ret (v := .bool false) (by simp [results, Tryd.results37, go_sem, *]) rfl ⟨by rw [HL.out]; rfl, fun y hy => (by rw [HL.out] at hy; cases hy), hbM⟩
    | some zs =>
      rw [hn] at HL
      have hB2 := hzs zs hn
      by_cases hz : zs.length = 1
      · obtain ⟨z, rfl⟩ : ∃ z, zs = [z] := by
          match zs, hz with
          | [z], _ => exact ⟨z, rfl⟩
        rcases hB2.own with ⟨_, _, _, h0⟩ | ⟨G, c5, cs, rfl, hG1, hG2, hl1, hl2, hBk, hcell⟩
        · simp at h0
        have qz : w2.cell? ⟨G, 0, none⟩ = some (.int .i64 z) := (hBk.cell 0).trans (hcell 0 z rfl)
        have lz := lt_of_cell qz
        dsimp only at lz
        obtain ⟨a1, c1, a2, c2, kN, -⟩ := HX2.out.own
        have cN := kN.cell
        have fN := kN.free
        have lN := kN.lt
        have hct : cntB (some [z]) 1 = true := rfl
        rw [hct]
        clear hct hn hzs hB2 hBk hcell hG1 hG2 hl1 hb2 hz
        go_wp2
        refine bodyPost_ret (v := .bool true) (by simp [results, Tryd.results37, go_sem, *]) rfl ⟨by rw [HL.out]; rfl, fun y hy => ?_, hbM.setCell (Nat.le_refl _) _⟩
        rw [HL.out] at hy
        obtain rfl := (Option.some.inj hy).symm
        exact HX2.out.nets z
      · have HL2 := HL.out
        have HL : Hid (lineL true x (lsts (s0 :: r)) = none) := Lib.hid (by
          rw [HL2]
          match zs, hz with
          | [], _ => rfl
          | [_], h => exact absurd rfl h
          | _ :: _ :: _, _ => rfl)
        have hct : cntB (some zs) 1 = false := by
          unfold cntB
          simp
          omega
        rw [hct]
        clear hct HL2 hn hzs hB2 hb2 hz
        go_wp2
        refine bodyPost_ret (v := .bool false) (by simp [results, Tryd.results37, go_sem, *]) rfl ⟨by rw [HL.out]; rfl, fun y hy => (by rw [HL.out] at hy; cases hy), hbM⟩

set_option maxRecDepth 100000 in
set_option maxHeartbeats 2000000 in
theorem netl_p1 (x : Nl) (s s0 : ByteArray) (r : List ByteArray) (NB B lo : Nat) (w : World) (hW : wrdS 32 s = s0 :: r) (hs : s.size ≤ 1048576) (hx : BoxN w NB lo x) (hG : Glob B w) (hB : B ≤ NB) (hk : s0.data.toList = wPortL) (hr : r.length ≠ 2) :
    Calls Tryd.prog 37 #[.pointer (some ⟨NB, 0, none⟩), .string s, .bool false] w fun e w' => e = .returned (.bool (lineL false x (lsts (s0 :: r))).isSome) ∧ (∀ y, lineL false x (lsts (s0 :: r)) = some y → BoxN w' NB lo y) ∧ Below NB w w' := by
  have HL : Hid (lineL false x (lsts (s0 :: r)) = none) := Lib.hid (by
    unfold lsts lineL
    simp only [List.map_cons, hk, Bool.false_eq_true, if_false, if_true]
    match r, hr with
    | [], _ => rfl
    | [_], _ => rfl
    | [_, _], h => exact absurd rfl h
    | _ :: _ :: _ :: _, _ => rfl)
  have hnb := hx.lt
  have HSP := Lib.hid (fun w hG => strings_Split_any s B w hs hG)
  have HW := Lib.hid hW
  have HX := Lib.hid hx
  have HG := Lib.hid hG
  have hsw := wrd_size 32 s
  rw [hW] at hsw
  have HWZ : Hid (∀ y ∈ s0 :: r, y.size ≤ 1048576) := Lib.hid (fun y hy => by have := hsw.1 y hy; omega)
  have hrl : r.length ≤ 1048576 := by have := hsw.2.1; simp at this; omega
  have e0 := nets_word s0
  have ep := port_word s0
  rw [hk, decide_eq_false (by decide)] at e0
  rw [hk, decide_eq_true rfl] at ep
  obtain ⟨n, hn⟩ : ∃ n, r.length + 1 = n := ⟨_, rfl⟩
  have e1 : ((n : Int) != 3) = true := by simp; omega
  have e2 : (0 : Int) < (n : Int) := by omega
  have e3 : 0 < n := by omega
  have HN := Lib.hid hn
  clear hk hr hn
  clear hx hG hW hsw
  go_enter Tryd.func37, Tryd.ntmps37
  go_wp2_with fail
  refine (HSP.out w HG.out).mono ?_
  rintro e w1 ⟨rfl, hst, hb1⟩
  rw [HW.out] at hst ⊢
  rw [show (s0 :: r).length = r.length + 1 from rfl] at hst ⊢
  have q0 : w1.cell? ⟨w.heap.size, 0, none⟩ = some (.string s0) := str_cell hst 0 s0 rfl
  have lg := lt_of_cell q0
  dsimp only at lg
  have hbN : Below NB w w1 := ⟨hb1.os, hb1.tape, hb1.output, hb1.size, fun k hk => hb1.block k (by omega)⟩
  rw [HN.out]
  clear hst
  go_wp2
  refine bodyPost_ret (v := .bool false) (by simp [results, Tryd.results37, go_sem, *]) rfl ⟨by rw [HL.out]; rfl, fun y hy => (by rw [HL.out] at hy; cases hy), hbN⟩

set_option maxRecDepth 100000 in
set_option maxHeartbeats 2000000 in
theorem netl_p2 (x : Nl) (s s0 : ByteArray) (r : List ByteArray) (NB B lo : Nat) (w : World) (hW : wrdS 32 s = s0 :: r) (hs : s.size ≤ 1048576) (hx : BoxN w NB lo x) (hG : Glob B w) (hB : B ≤ NB) (nm a : ByteArray) (hk : s0.data.toList = wPortL) (hr : r = [nm, a]) (hb : nameB nm = false) :
    Calls Tryd.prog 37 #[.pointer (some ⟨NB, 0, none⟩), .string s, .bool false] w fun e w' => e = .returned (.bool (lineL false x (lsts (s0 :: r))).isSome) ∧ (∀ y, lineL false x (lsts (s0 :: r)) = some y → BoxN w' NB lo y) ∧ Below NB w w' := by
  have hmk : (⟨nm.data.toList.toArray⟩ : ByteArray) = nm := ba_ext rfl
  have HL : Hid (lineL false x (lsts (s0 :: r)) = none) := Lib.hid (by
    subst hr
    unfold lsts lineL
    simp only [List.map_cons, List.map_nil, hk, Bool.false_eq_true, if_false, if_true, hmk]
    rw [if_neg]
    rintro ⟨h1, h2⟩
    rw [h1] at hb; cases hb)
  have hnb := hx.lt
  have HSP := Lib.hid (fun w hG => strings_Split_any s B w hs hG)
  have HW := Lib.hid hW
  have HX := Lib.hid hx
  have HG := Lib.hid hG
  have hsw := wrd_size 32 s
  rw [hW] at hsw
  have HWZ : Hid (∀ y ∈ s0 :: r, y.size ≤ 1048576) := Lib.hid (fun y hy => by have := hsw.1 y hy; omega)
  have hrl : r.length ≤ 1048576 := by have := hsw.2.1; simp at this; omega
  subst hr
  have HI := Lib.hid (fun w => implIsName_any nm w (by have := HWZ.out nm (by simp); omega))
  obtain ⟨a1, c1, a2, c2, kN0, -⟩ := HX.out.own
  have e0 := nets_word s0
  have ep := port_word s0
  rw [hk, decide_eq_false (by decide)] at e0
  rw [hk, decide_eq_true rfl] at ep
  rw [hb] at HI
  clear hk hb hmk
  clear hx hG hW hsw
  go_enter Tryd.func37, Tryd.ntmps37
  go_wp2_with fail
  refine (HSP.out w HG.out).mono ?_
  rintro e w1 ⟨rfl, hst, hb1⟩
  rw [HW.out] at hst ⊢
  rw [show (s0 :: [nm, a]).length = 3 from rfl] at hst ⊢
  have q0 : w1.cell? ⟨w.heap.size, 0, none⟩ = some (.string s0) := str_cell hst 0 s0 rfl
  have lg := lt_of_cell q0
  dsimp only at lg
  have hbN : Below NB w w1 := ⟨hb1.os, hb1.tape, hb1.output, hb1.size, fun k hk => hb1.block k (by omega)⟩
  have q1 : w1.cell? ⟨w.heap.size, 1, none⟩ = some (.string nm) := str_cell hst 1 nm rfl
  have kN := Blk.by hb1 kN0
  have cN := kN.cell
  have lN := kN.lt
  clear hst kN0
  go_wp2_with (go_at_call 48; refine (HI.out _).mono ?_; rintro e w2 ⟨rfl, rfl⟩)
  refine bodyPost_ret (v := .bool false) (by simp [results, Tryd.results37, go_sem, *]) rfl ⟨by rw [HL.out]; rfl, fun y hy => (by rw [HL.out] at hy; cases hy), hbN⟩

set_option maxRecDepth 100000 in
set_option maxHeartbeats 2000000 in
theorem netl_p3 (x : Nl) (s s0 : ByteArray) (r : List ByteArray) (NB B lo : Nat) (w : World) (hW : wrdS 32 s = s0 :: r) (hs : s.size ≤ 1048576) (hx : BoxN w NB lo x) (hG : Glob B w) (hB : B ≤ NB) (nm a : ByteArray) (hk : s0.data.toList = wPortL) (hr : r = [nm, a]) (hn : nameB nm = true) (hb : x.ds ≠ []) :
    Calls Tryd.prog 37 #[.pointer (some ⟨NB, 0, none⟩), .string s, .bool false] w fun e w' => e = .returned (.bool (lineL false x (lsts (s0 :: r))).isSome) ∧ (∀ y, lineL false x (lsts (s0 :: r)) = some y → BoxN w' NB lo y) ∧ Below NB w w' := by
  have hmk : (⟨nm.data.toList.toArray⟩ : ByteArray) = nm := ba_ext rfl
  have HL : Hid (lineL false x (lsts (s0 :: r)) = none) := Lib.hid (by
    subst hr
    unfold lsts lineL
    simp only [List.map_cons, List.map_nil, hk, Bool.false_eq_true, if_false, if_true, hmk]
    rw [if_neg]
    rintro ⟨h1, h2⟩
    exact hb h2)
  have hnb := hx.lt
  have HSP := Lib.hid (fun w hG => strings_Split_any s B w hs hG)
  have HW := Lib.hid hW
  have HX := Lib.hid hx
  have HG := Lib.hid hG
  have hsw := wrd_size 32 s
  rw [hW] at hsw
  have HWZ : Hid (∀ y ∈ s0 :: r, y.size ≤ 1048576) := Lib.hid (fun y hy => by have := hsw.1 y hy; omega)
  have hrl : r.length ≤ 1048576 := by have := hsw.2.1; simp at this; omega
  subst hr
  have HI := Lib.hid (fun w => implIsName_any nm w (by have := HWZ.out nm (by simp); omega))
  obtain ⟨a1, c1, a2, c2, kN0, -⟩ := HX.out.own
  have e0 := nets_word s0
  have ep := port_word s0
  rw [hk, decide_eq_false (by decide)] at e0
  rw [hk, decide_eq_true rfl] at ep
  rw [hn] at HI
  have hds : x.ds.length ≠ 0 := fun e => hb (List.eq_nil_of_length_eq_zero e)
  have e5 : decide ((0 : Int) < (x.ds.length : Int)) = true := decide_eq_true (by omega)
  have e6 : decide (0 < x.ds.length) = true := decide_eq_true (by omega)
  clear hk hb hmk hn hds
  clear hx hG hW hsw
  go_enter Tryd.func37, Tryd.ntmps37
  go_wp2_with fail
  refine (HSP.out w HG.out).mono ?_
  rintro e w1 ⟨rfl, hst, hb1⟩
  rw [HW.out] at hst ⊢
  rw [show (s0 :: [nm, a]).length = 3 from rfl] at hst ⊢
  have q0 : w1.cell? ⟨w.heap.size, 0, none⟩ = some (.string s0) := str_cell hst 0 s0 rfl
  have lg := lt_of_cell q0
  dsimp only at lg
  have hbN : Below NB w w1 := ⟨hb1.os, hb1.tape, hb1.output, hb1.size, fun k hk => hb1.block k (by omega)⟩
  have q1 : w1.cell? ⟨w.heap.size, 1, none⟩ = some (.string nm) := str_cell hst 1 nm rfl
  have kN := Blk.by hb1 kN0
  have cN := kN.cell
  have lN := kN.lt
  clear hst kN0
  go_wp2_with (go_at_call 48; refine (HI.out _).mono ?_; rintro e w2 ⟨rfl, rfl⟩)
  refine bodyPost_ret (v := .bool false) (by simp [results, Tryd.results37, go_sem, *]) rfl ⟨by rw [HL.out]; rfl, fun y hy => (by rw [HL.out] at hy; cases hy), hbN⟩

set_option maxRecDepth 100000 in
set_option maxHeartbeats 2000000 in
theorem netl_p4 (x : Nl) (s s0 : ByteArray) (r : List ByteArray) (NB B lo : Nat) (w : World) (hW : wrdS 32 s = s0 :: r) (hs : s.size ≤ 1048576) (hx : BoxN w NB lo x) (hG : Glob B w) (hB : B ≤ NB) (nm a : ByteArray) (hk : s0.data.toList = wPortL) (hr : r = [nm, a]) (hn : nameB nm = true) (hb : x.ds = []) (hnum : numL a.data.toList = none) :
    Calls Tryd.prog 37 #[.pointer (some ⟨NB, 0, none⟩), .string s, .bool false] w fun e w' => e = .returned (.bool (lineL false x (lsts (s0 :: r))).isSome) ∧ (∀ y, lineL false x (lsts (s0 :: r)) = some y → BoxN w' NB lo y) ∧ Below NB w w' := by
  have hmk : (⟨nm.data.toList.toArray⟩ : ByteArray) = nm := ba_ext rfl
  have HL : Hid (lineL false x (lsts (s0 :: r)) = none) := Lib.hid (by
    subst hr
    unfold lsts lineL
    simp only [List.map_cons, List.map_nil, hk, Bool.false_eq_true, if_false, if_true, hmk]
    rw [if_pos ⟨hn, hb⟩, hnum])
  have hnb := hx.lt
  have HSP := Lib.hid (fun w hG => strings_Split_any s B w hs hG)
  have HW := Lib.hid hW
  have HX := Lib.hid hx
  have HG := Lib.hid hG
  have hsw := wrd_size 32 s
  rw [hW] at hsw
  have HWZ : Hid (∀ y ∈ s0 :: r, y.size ≤ 1048576) := Lib.hid (fun y hy => by have := hsw.1 y hy; omega)
  have hrl : r.length ≤ 1048576 := by have := hsw.2.1; simp at this; omega
  subst hr
  have HI := Lib.hid (fun w => implIsName_any nm w (by have := HWZ.out nm (by simp); omega))
  obtain ⟨a1, c1, a2, c2, kN0, -⟩ := HX.out.own
  have e0 := nets_word s0
  have ep := port_word s0
  rw [hk, decide_eq_false (by decide)] at e0
  rw [hk, decide_eq_true rfl] at ep
  rw [hn] at HI
  have e5 : decide ((0 : Int) < (x.ds.length : Int)) = false := decide_eq_false (by rw [hb]; simp)
  have e6 : decide (0 < x.ds.length) = false := decide_eq_false (by rw [hb]; simp)
  have e7 : x.ds.length = 0 := by rw [hb]; rfl
  have HNU := Lib.hid (fun v ss cnt w h hs hl hB hG => netNumbers_any v ss cnt B w h hs hl hB hG)
  have HNN : Hid (numsL (lsts [a]) = none) := Lib.hid (by unfold lsts; simp [numsL, hnum])
  clear hk hb hmk hn hnum
  clear hx hG hW hsw
  go_enter Tryd.func37, Tryd.ntmps37
  go_wp2_with fail
  refine (HSP.out w HG.out).mono ?_
  rintro e w1 ⟨rfl, hst, hb1⟩
  rw [HW.out] at hst ⊢
  rw [show (s0 :: [nm, a]).length = 3 from rfl] at hst ⊢
  have q0 : w1.cell? ⟨w.heap.size, 0, none⟩ = some (.string s0) := str_cell hst 0 s0 rfl
  have lg := lt_of_cell q0
  dsimp only at lg
  have hbN : Below NB w w1 := ⟨hb1.os, hb1.tape, hb1.output, hb1.size, fun k hk => hb1.block k (by omega)⟩
  have q1 : w1.cell? ⟨w.heap.size, 1, none⟩ = some (.string nm) := str_cell hst 1 nm rfl
  have hwt := hst.tail.2.2.tail.2.2
  have HWT : Hid (StrSl w1 (.slice (some ⟨w.heap.size, 2, none⟩) 1 1) [a]) := Lib.hid hwt
  have kN := Blk.by hb1 kN0
  have cN := kN.cell
  have lN := kN.lt
  clear hst kN0 hwt
  go_wp2_with (go_at_call 48; refine (HI.out _).mono ?_; rintro e w2 ⟨rfl, rfl⟩)
  refine (HNU.out _ [a] 1 w1 HWT.out (fun y hy => HWZ.out y (by simp at hy; subst hy; simp)) (by simp) (by omega) (HG.out.by hb1 (by omega))).mono ?_
  rintro e w2 ⟨v2, rfl, hzs, hb2⟩
  have hbM : Below NB w w2 := hbN.trans ⟨hb2.os, hb2.tape, hb2.output, hb2.size, fun k hk => hb2.block k (by omega)⟩
  clear hb1 q0 lg HWT q1 cN lN kN hbN hzs hb2
  rw [HNN.out]
  simp only [cntB]
  go_wp2
  refine bodyPost_ret (v := .bool false) (by simp [results, Tryd.results37, go_sem, *]) rfl ⟨by rw [HL.out]; rfl, fun y hy => (by rw [HL.out] at hy; cases hy), hbM⟩

theorem word_n (s : ByteArray) : (s.toList == ([110] : List UInt8)) = decide (s.data.toList = [110]) := by
  have e1 := toList_eq s ⟨#[110]⟩
  rw [show (⟨#[110]⟩ : ByteArray).toList = [110] by simp] at e1
  rw [e1]
  by_cases h : s = ⟨#[110]⟩
  · subst h; rfl
  · rw [decide_eq_false h, decide_eq_false]
    intro e
    exact h (ba_ext (by rw [e]))
theorem word_p (s : ByteArray) : (s.toList == ([112] : List UInt8)) = decide (s.data.toList = [112]) := by
  have e1 := toList_eq s ⟨#[112]⟩
  rw [show (⟨#[112]⟩ : ByteArray).toList = [112] by simp] at e1
  rw [e1]
  by_cases h : s = ⟨#[112]⟩
  · subst h; rfl
  · rw [decide_eq_false h, decide_eq_false]
    intro e
    exact h (ba_ext (by rw [e]))
theorem word_r (s : ByteArray) : (s.toList == ([114] : List UInt8)) = decide (s.data.toList = [114]) := by
  have e1 := toList_eq s ⟨#[114]⟩
  rw [show (⟨#[114]⟩ : ByteArray).toList = [114] by simp] at e1
  rw [e1]
  by_cases h : s = ⟨#[114]⟩
  · subst h; rfl
  · rw [decide_eq_false h, decide_eq_false]
    intro e
    exact h (ba_ext (by rw [e]))
theorem kindL_none {w : List UInt8} (h : kindL w = none) : w ≠ [110] ∧ w ≠ [112] ∧ w ≠ [114] := by
  unfold kindL at h
  refine ⟨fun e => ?_, fun e => ?_, fun e => ?_⟩ <;> subst e <;> simp at h

set_option maxRecDepth 100000 in
set_option maxHeartbeats 2000000 in
theorem netl_k0 (x : Nl) (s s0 : ByteArray) (r : List ByteArray) (NB B lo : Nat) (w : World) (hW : wrdS 32 s = s0 :: r) (hs : s.size ≤ 1048576) (hx : BoxN w NB lo x) (hG : Glob B w) (hB : B ≤ NB) (hk : ¬ s0.data.toList = wPortL) (hk2 : ¬ s0.data.toList = wNetsL) (hkl : kindL s0.data.toList = none) :
    Calls Tryd.prog 37 #[.pointer (some ⟨NB, 0, none⟩), .string s, .bool false] w fun e w' => e = .returned (.bool (lineL false x (lsts (s0 :: r))).isSome) ∧ (∀ y, lineL false x (lsts (s0 :: r)) = some y → BoxN w' NB lo y) ∧ Below NB w w' := by
  have HL : Hid (lineL false x (lsts (s0 :: r)) = none) := Lib.hid (by
    unfold lsts lineL
    simp only [List.map_cons, hk, Bool.false_eq_true, if_false, hkl])
  have hnb := hx.lt
  have HSP := Lib.hid (fun w hG => strings_Split_any s B w hs hG)
  have HW := Lib.hid hW
  have HX := Lib.hid hx
  have HG := Lib.hid hG
  have hsw := wrd_size 32 s
  rw [hW] at hsw
  have HWZ : Hid (∀ y ∈ s0 :: r, y.size ≤ 1048576) := Lib.hid (fun y hy => by have := hsw.1 y hy; omega)
  have hrl : r.length ≤ 1048576 := by have := hsw.2.1; simp at this; omega
  have e0 := nets_word s0
  have ep := port_word s0
  have en := word_n s0
  have eq := word_p s0
  have er := word_r s0
  obtain ⟨n1, n2, n3⟩ := kindL_none hkl
  rw [decide_eq_false hk2] at e0
  rw [decide_eq_false hk] at ep
  rw [decide_eq_false n1] at en
  rw [decide_eq_false n2] at eq
  rw [decide_eq_false n3] at er
  have e1 : (0 : Int) < ((r.length + 1 : Nat) : Int) := by omega
  clear hk hk2 hkl n1 n2 n3
  clear hx hG hW hsw
  go_enter Tryd.func37, Tryd.ntmps37
  go_wp2_with fail
  refine (HSP.out w HG.out).mono ?_
  rintro e w1 ⟨rfl, hst, hb1⟩
  rw [HW.out] at hst ⊢
  rw [show (s0 :: r).length = r.length + 1 from rfl] at hst ⊢
  have q0 : w1.cell? ⟨w.heap.size, 0, none⟩ = some (.string s0) := str_cell hst 0 s0 rfl
  have lg := lt_of_cell q0
  dsimp only at lg
  have hbN : Below NB w w1 := ⟨hb1.os, hb1.tape, hb1.output, hb1.size, fun k hk => hb1.block k (by omega)⟩
  clear hst
  go_wp2
  refine bodyPost_ret (v := .bool false) (by simp [results, Tryd.results37, go_sem, *]) rfl ⟨by rw [HL.out]; rfl, fun y hy => (by rw [HL.out] at hy; cases hy), hbN⟩

set_option maxRecDepth 100000 in
set_option maxHeartbeats 2000000 in
theorem netl_k1_0 (x : Nl) (s s0 : ByteArray) (r : List ByteArray) (NB B lo : Nat) (w : World) (hW : wrdS 32 s = s0 :: r) (hs : s.size ≤ 1048576) (hx : BoxN w NB lo x) (hG : Glob B w) (hB : B ≤ NB) (hkl : kindL s0.data.toList = some 0) (hc : cntB (numsL (lsts r)) 5 = false) :
    Calls Tryd.prog 37 #[.pointer (some ⟨NB, 0, none⟩), .string s, .bool false] w fun e w' => e = .returned (.bool (lineL false x (lsts (s0 :: r))).isSome) ∧ (∀ y, lineL false x (lsts (s0 :: r)) = some y → BoxN w' NB lo y) ∧ Below NB w w' := by
  have HL : Hid (lineL false x (lsts (s0 :: r)) = none) := Lib.hid (by
    have hk : ¬ s0.data.toList = wPortL := by
      intro e
      rw [e] at hkl
      exact absurd hkl (by decide)
    unfold lsts lineL
    simp only [List.map_cons, hk, Bool.false_eq_true, if_false, hkl]
    match hn : numsL (r.map fun b : ByteArray => b.data.toList) with
    | none => rfl
    | some zs =>
      dsimp only
      rw [show numsL (lsts r) = some zs from hn] at hc
      rw [if_neg]
      intro e
      rw [show cntB (some zs) 5 = ((zs.length : Int) == 5) from rfl, e, show pinN 0 = 3 from rfl] at hc
      simp at hc)
  have hnb := hx.lt
  have HSP := Lib.hid (fun w hG => strings_Split_any s B w hs hG)
  have HW := Lib.hid hW
  have HX := Lib.hid hx
  have HG := Lib.hid hG
  have hsw := wrd_size 32 s
  rw [hW] at hsw
  have HWZ : Hid (∀ y ∈ s0 :: r, y.size ≤ 1048576) := Lib.hid (fun y hy => by have := hsw.1 y hy; omega)
  have hrl : r.length ≤ 1048576 := by have := hsw.2.1; simp at this; omega
  have e0 := nets_word s0
  have ep := port_word s0
  have en := word_n s0
  have eq := word_p s0
  have er := word_r s0
  have hks : s0.data.toList = [110] := by
    obtain ⟨h1, -⟩ := kindL_word hkl
    rw [← h1]; rfl
  have hs0 : s0 = ⟨#[110]⟩ := ba_ext (by rw [hks])
  rw [decide_eq_false (by rw [hks]; decide)] at e0
  rw [decide_eq_false (by rw [hks]; decide)] at ep
  rw [decide_eq_true hks] at en
  rw [decide_eq_false (by rw [hks]; decide)] at eq
  rw [decide_eq_false (by rw [hks]; decide)] at er
  have HIX : Hid (∀ (w : World) (g : Nat), Blk w g #[.string ⟨#[110]⟩, .string ⟨#[112]⟩, .string ⟨#[114]⟩] 9 → Calls Tryd.prog 70 #[.slice (some ⟨g, 0, none⟩) 3 3, .string s0] w fun e w' => e = .returned (.int .i64 0) ∧ w' = w) := Lib.hid (fun w g hB => by
    have h := Tryd.slices_Index_string g 0 3 3 [⟨#[110]⟩, ⟨#[112]⟩, ⟨#[114]⟩] s0 w (by decide) (by decide) (fun j hj => by
      rw [hB.cell]
      match j, hj with
      | 0, _ => rfl
      | 1, _ => rfl
      | 2, _ => rfl
      | j + 3, hj => simp at hj; omega)
    have e : Go.Lib.idxOfS ([⟨#[110]⟩, ⟨#[112]⟩, ⟨#[114]⟩].take 3) s0 = 0 := by rw [hs0]; decide
    rw [e] at h
    exact h)
  have HPC : Hid (∀ w : World, Calls Tryd.prog 71 #[.int .i64 0] w fun e w' => e = .returned (.int .i64 3) ∧ w = w') := Lib.hid (fun w => pinCount_any 0 w)
  have HNU := Lib.hid (fun v ss cnt w h hs hl hB hG => netNumbers_any v ss cnt B w h hs hl hB hG)
  have HC := Lib.hid hc
  clear hkl hc hks hs0
  clear hx hG hW hsw
  go_enter Tryd.func37, Tryd.ntmps37
  go_wp2_with fail
  refine (HSP.out w HG.out).mono ?_
  rintro e w1 ⟨rfl, hst, hb1⟩
  rw [HW.out] at hst ⊢
  rw [show (s0 :: r).length = r.length + 1 from rfl] at hst ⊢
  have q0 : w1.cell? ⟨w.heap.size, 0, none⟩ = some (.string s0) := str_cell hst 0 s0 rfl
  have lg := lt_of_cell q0
  dsimp only at lg
  have hbN : Below NB w w1 := ⟨hb1.os, hb1.tape, hb1.output, hb1.size, fun k hk => hb1.block k (by omega)⟩
  obtain ⟨k, hk0⟩ : ∃ k, r.length = k := ⟨_, rfl⟩
  obtain ⟨-, hc1, hwt⟩ := hst.tail
  rw [hk0] at hwt hrl ⊢
  rw [show k + 1 - 1 = k by omega] at hwt
  have hcase : (k = 0 ∧ StrSl w1 (.slice (some ⟨w.heap.size, 0, none⟩) 0 0) r) ∨ (¬ k = 0 ∧ StrSl w1 (.slice (some ⟨w.heap.size, 1, none⟩) k k) r) := by
    by_cases h : k = 0
    · exact .inl ⟨h, .inl ⟨some ⟨w.heap.size, 0, none⟩, 0, rfl, List.eq_nil_of_length_eq_zero (by omega)⟩⟩
    · exact .inr ⟨h, hwt⟩
  have HK0 := Lib.hid hk0
  have e8 : (0 : Int) < ((k + 1 : Nat) : Int) := by omega
  clear hwt hst hk0
  rcases hcase with ⟨hcz, hwt⟩ | ⟨hcz, hwt⟩
  all_goals
    have HWT := Lib.hid hwt
    clear hwt
    go_wp2_with fail
    refine (HIX.out (w1.alloc (.cells #[.string ⟨#[110]⟩, .string ⟨#[112]⟩, .string ⟨#[114]⟩] 9)) w1.heap.size (Blk.new _ rfl)).mono ?_
    rintro e w2 ⟨rfl, rfl⟩
    have hal : Below w1.heap.size w1 (w1.alloc (.cells #[.string ⟨#[110]⟩, .string ⟨#[112]⟩, .string ⟨#[114]⟩] 9)) := (Below.refl _ w1).alloc (Nat.le_refl _) _
    have HWT2 := Lib.hid (HWT.out.by hal)
    have hb2 : Below w.heap.size w (w1.alloc (.cells #[.string ⟨#[110]⟩, .string ⟨#[112]⟩, .string ⟨#[114]⟩] 9)) := below_on hal hb1
    have q1 := cell_by' hal q0
    have lg1 := lt_of_cell q1
    dsimp only at lg1
    clear hal HWT q0 lg hbN hb1
    generalize w1.alloc (.cells #[.string ⟨#[110]⟩, .string ⟨#[112]⟩, .string ⟨#[114]⟩] 9) = w2 at *
    go_wp2_with fail
    refine (HPC.out w2).mono ?_
    rintro e w3 ⟨rfl, rfl⟩
    go_wp2_with fail
    refine (HNU.out _ r 5 w2 HWT2.out (fun y hy => HWZ.out y (List.mem_cons_of_mem _ hy)) (by have := HK0.out; omega) (by have := hb2.size; omega) (HG.out.by hb2 (by omega))).mono ?_
    rintro e w3 ⟨v2, rfl, hzs, hb3⟩
    have hbM0 : Below w.heap.size w w3 := below_on hb3 hb2
    have hbM : Below NB w w3 := ⟨hbM0.os, hbM0.tape, hbM0.output, hbM0.size, fun k hk => hbM0.block k (by omega)⟩
    have q2 := cell_by' hb3 q1
    clear q1 lg1 HWT2
    rw [HC.out]
    clear hzs hb3 hb2 hbM0 q2
    go_wp2
    refine bodyPost_ret (v := .bool false) (by simp [results, Tryd.results37, go_sem, *]) rfl ⟨by rw [HL.out]; rfl, fun y hy => (by rw [HL.out] at hy; cases hy), hbM⟩

set_option maxRecDepth 100000 in
set_option maxHeartbeats 2000000 in
theorem netl_k1_1 (x : Nl) (s s0 : ByteArray) (r : List ByteArray) (NB B lo : Nat) (w : World) (hW : wrdS 32 s = s0 :: r) (hs : s.size ≤ 1048576) (hx : BoxN w NB lo x) (hG : Glob B w) (hB : B ≤ NB) (hkl : kindL s0.data.toList = some 1) (hc : cntB (numsL (lsts r)) 5 = false) :
    Calls Tryd.prog 37 #[.pointer (some ⟨NB, 0, none⟩), .string s, .bool false] w fun e w' => e = .returned (.bool (lineL false x (lsts (s0 :: r))).isSome) ∧ (∀ y, lineL false x (lsts (s0 :: r)) = some y → BoxN w' NB lo y) ∧ Below NB w w' := by
  have HL : Hid (lineL false x (lsts (s0 :: r)) = none) := Lib.hid (by
    have hk : ¬ s0.data.toList = wPortL := by
      intro e
      rw [e] at hkl
      exact absurd hkl (by decide)
    unfold lsts lineL
    simp only [List.map_cons, hk, Bool.false_eq_true, if_false, hkl]
    match hn : numsL (r.map fun b : ByteArray => b.data.toList) with
    | none => rfl
    | some zs =>
      dsimp only
      rw [show numsL (lsts r) = some zs from hn] at hc
      rw [if_neg]
      intro e
      rw [show cntB (some zs) 5 = ((zs.length : Int) == 5) from rfl, e, show pinN 1 = 3 from rfl] at hc
      simp at hc)
  have hnb := hx.lt
  have HSP := Lib.hid (fun w hG => strings_Split_any s B w hs hG)
  have HW := Lib.hid hW
  have HX := Lib.hid hx
  have HG := Lib.hid hG
  have hsw := wrd_size 32 s
  rw [hW] at hsw
  have HWZ : Hid (∀ y ∈ s0 :: r, y.size ≤ 1048576) := Lib.hid (fun y hy => by have := hsw.1 y hy; omega)
  have hrl : r.length ≤ 1048576 := by have := hsw.2.1; simp at this; omega
  have e0 := nets_word s0
  have ep := port_word s0
  have en := word_n s0
  have eq := word_p s0
  have er := word_r s0
  have hks : s0.data.toList = [112] := by
    obtain ⟨h1, -⟩ := kindL_word hkl
    rw [← h1]; rfl
  have hs0 : s0 = ⟨#[112]⟩ := ba_ext (by rw [hks])
  rw [decide_eq_false (by rw [hks]; decide)] at e0
  rw [decide_eq_false (by rw [hks]; decide)] at ep
  rw [decide_eq_false (by rw [hks]; decide)] at en
  rw [decide_eq_true hks] at eq
  rw [decide_eq_false (by rw [hks]; decide)] at er
  have HIX : Hid (∀ (w : World) (g : Nat), Blk w g #[.string ⟨#[110]⟩, .string ⟨#[112]⟩, .string ⟨#[114]⟩] 9 → Calls Tryd.prog 70 #[.slice (some ⟨g, 0, none⟩) 3 3, .string s0] w fun e w' => e = .returned (.int .i64 1) ∧ w' = w) := Lib.hid (fun w g hB => by
    have h := Tryd.slices_Index_string g 0 3 3 [⟨#[110]⟩, ⟨#[112]⟩, ⟨#[114]⟩] s0 w (by decide) (by decide) (fun j hj => by
      rw [hB.cell]
      match j, hj with
      | 0, _ => rfl
      | 1, _ => rfl
      | 2, _ => rfl
      | j + 3, hj => simp at hj; omega)
    have e : Go.Lib.idxOfS ([⟨#[110]⟩, ⟨#[112]⟩, ⟨#[114]⟩].take 3) s0 = 1 := by rw [hs0]; decide
    rw [e] at h
    exact h)
  have HPC : Hid (∀ w : World, Calls Tryd.prog 71 #[.int .i64 1] w fun e w' => e = .returned (.int .i64 3) ∧ w = w') := Lib.hid (fun w => pinCount_any 1 w)
  have HNU := Lib.hid (fun v ss cnt w h hs hl hB hG => netNumbers_any v ss cnt B w h hs hl hB hG)
  have HC := Lib.hid hc
  clear hkl hc hks hs0
  clear hx hG hW hsw
  go_enter Tryd.func37, Tryd.ntmps37
  go_wp2_with fail
  refine (HSP.out w HG.out).mono ?_
  rintro e w1 ⟨rfl, hst, hb1⟩
  rw [HW.out] at hst ⊢
  rw [show (s0 :: r).length = r.length + 1 from rfl] at hst ⊢
  have q0 : w1.cell? ⟨w.heap.size, 0, none⟩ = some (.string s0) := str_cell hst 0 s0 rfl
  have lg := lt_of_cell q0
  dsimp only at lg
  have hbN : Below NB w w1 := ⟨hb1.os, hb1.tape, hb1.output, hb1.size, fun k hk => hb1.block k (by omega)⟩
  obtain ⟨k, hk0⟩ : ∃ k, r.length = k := ⟨_, rfl⟩
  obtain ⟨-, hc1, hwt⟩ := hst.tail
  rw [hk0] at hwt hrl ⊢
  rw [show k + 1 - 1 = k by omega] at hwt
  have hcase : (k = 0 ∧ StrSl w1 (.slice (some ⟨w.heap.size, 0, none⟩) 0 0) r) ∨ (¬ k = 0 ∧ StrSl w1 (.slice (some ⟨w.heap.size, 1, none⟩) k k) r) := by
    by_cases h : k = 0
    · exact .inl ⟨h, .inl ⟨some ⟨w.heap.size, 0, none⟩, 0, rfl, List.eq_nil_of_length_eq_zero (by omega)⟩⟩
    · exact .inr ⟨h, hwt⟩
  have HK0 := Lib.hid hk0
  have e8 : (0 : Int) < ((k + 1 : Nat) : Int) := by omega
  clear hwt hst hk0
  rcases hcase with ⟨hcz, hwt⟩ | ⟨hcz, hwt⟩
  all_goals
    have HWT := Lib.hid hwt
    clear hwt
    go_wp2_with fail
    refine (HIX.out (w1.alloc (.cells #[.string ⟨#[110]⟩, .string ⟨#[112]⟩, .string ⟨#[114]⟩] 9)) w1.heap.size (Blk.new _ rfl)).mono ?_
    rintro e w2 ⟨rfl, rfl⟩
    have hal : Below w1.heap.size w1 (w1.alloc (.cells #[.string ⟨#[110]⟩, .string ⟨#[112]⟩, .string ⟨#[114]⟩] 9)) := (Below.refl _ w1).alloc (Nat.le_refl _) _
    have HWT2 := Lib.hid (HWT.out.by hal)
    have hb2 : Below w.heap.size w (w1.alloc (.cells #[.string ⟨#[110]⟩, .string ⟨#[112]⟩, .string ⟨#[114]⟩] 9)) := below_on hal hb1
    have q1 := cell_by' hal q0
    have lg1 := lt_of_cell q1
    dsimp only at lg1
    clear hal HWT q0 lg hbN hb1
    generalize w1.alloc (.cells #[.string ⟨#[110]⟩, .string ⟨#[112]⟩, .string ⟨#[114]⟩] 9) = w2 at *
    go_wp2_with fail
    refine (HPC.out w2).mono ?_
    rintro e w3 ⟨rfl, rfl⟩
    go_wp2_with fail
    refine (HNU.out _ r 5 w2 HWT2.out (fun y hy => HWZ.out y (List.mem_cons_of_mem _ hy)) (by have := HK0.out; omega) (by have := hb2.size; omega) (HG.out.by hb2 (by omega))).mono ?_
    rintro e w3 ⟨v2, rfl, hzs, hb3⟩
    have hbM0 : Below w.heap.size w w3 := below_on hb3 hb2
    have hbM : Below NB w w3 := ⟨hbM0.os, hbM0.tape, hbM0.output, hbM0.size, fun k hk => hbM0.block k (by omega)⟩
    have q2 := cell_by' hb3 q1
    clear q1 lg1 HWT2
    rw [HC.out]
    clear hzs hb3 hb2 hbM0 q2
    go_wp2
    refine bodyPost_ret (v := .bool false) (by simp [results, Tryd.results37, go_sem, *]) rfl ⟨by rw [HL.out]; rfl, fun y hy => (by rw [HL.out] at hy; cases hy), hbM⟩

set_option maxRecDepth 100000 in
set_option maxHeartbeats 2000000 in
theorem netl_k1_2 (x : Nl) (s s0 : ByteArray) (r : List ByteArray) (NB B lo : Nat) (w : World) (hW : wrdS 32 s = s0 :: r) (hs : s.size ≤ 1048576) (hx : BoxN w NB lo x) (hG : Glob B w) (hB : B ≤ NB) (hkl : kindL s0.data.toList = some 2) (hc : cntB (numsL (lsts r)) 4 = false) :
    Calls Tryd.prog 37 #[.pointer (some ⟨NB, 0, none⟩), .string s, .bool false] w fun e w' => e = .returned (.bool (lineL false x (lsts (s0 :: r))).isSome) ∧ (∀ y, lineL false x (lsts (s0 :: r)) = some y → BoxN w' NB lo y) ∧ Below NB w w' := by
  have HL : Hid (lineL false x (lsts (s0 :: r)) = none) := Lib.hid (by
    have hk : ¬ s0.data.toList = wPortL := by
      intro e
      rw [e] at hkl
      exact absurd hkl (by decide)
    unfold lsts lineL
    simp only [List.map_cons, hk, Bool.false_eq_true, if_false, hkl]
    match hn : numsL (r.map fun b : ByteArray => b.data.toList) with
    | none => rfl
    | some zs =>
      dsimp only
      rw [show numsL (lsts r) = some zs from hn] at hc
      rw [if_neg]
      intro e
      rw [show cntB (some zs) 4 = ((zs.length : Int) == 4) from rfl, e, show pinN 2 = 2 from rfl] at hc
      simp at hc)
  have hnb := hx.lt
  have HSP := Lib.hid (fun w hG => strings_Split_any s B w hs hG)
  have HW := Lib.hid hW
  have HX := Lib.hid hx
  have HG := Lib.hid hG
  have hsw := wrd_size 32 s
  rw [hW] at hsw
  have HWZ : Hid (∀ y ∈ s0 :: r, y.size ≤ 1048576) := Lib.hid (fun y hy => by have := hsw.1 y hy; omega)
  have hrl : r.length ≤ 1048576 := by have := hsw.2.1; simp at this; omega
  have e0 := nets_word s0
  have ep := port_word s0
  have en := word_n s0
  have eq := word_p s0
  have er := word_r s0
  have hks : s0.data.toList = [114] := by
    obtain ⟨h1, -⟩ := kindL_word hkl
    rw [← h1]; rfl
  have hs0 : s0 = ⟨#[114]⟩ := ba_ext (by rw [hks])
  rw [decide_eq_false (by rw [hks]; decide)] at e0
  rw [decide_eq_false (by rw [hks]; decide)] at ep
  rw [decide_eq_false (by rw [hks]; decide)] at en
  rw [decide_eq_false (by rw [hks]; decide)] at eq
  rw [decide_eq_true hks] at er
  have HIX : Hid (∀ (w : World) (g : Nat), Blk w g #[.string ⟨#[110]⟩, .string ⟨#[112]⟩, .string ⟨#[114]⟩] 9 → Calls Tryd.prog 70 #[.slice (some ⟨g, 0, none⟩) 3 3, .string s0] w fun e w' => e = .returned (.int .i64 2) ∧ w' = w) := Lib.hid (fun w g hB => by
    have h := Tryd.slices_Index_string g 0 3 3 [⟨#[110]⟩, ⟨#[112]⟩, ⟨#[114]⟩] s0 w (by decide) (by decide) (fun j hj => by
      rw [hB.cell]
      match j, hj with
      | 0, _ => rfl
      | 1, _ => rfl
      | 2, _ => rfl
      | j + 3, hj => simp at hj; omega)
    have e : Go.Lib.idxOfS ([⟨#[110]⟩, ⟨#[112]⟩, ⟨#[114]⟩].take 3) s0 = 2 := by rw [hs0]; decide
    rw [e] at h
    exact h)
  have HPC : Hid (∀ w : World, Calls Tryd.prog 71 #[.int .i64 2] w fun e w' => e = .returned (.int .i64 2) ∧ w = w') := Lib.hid (fun w => pinCount_any 2 w)
  have HNU := Lib.hid (fun v ss cnt w h hs hl hB hG => netNumbers_any v ss cnt B w h hs hl hB hG)
  have HC := Lib.hid hc
  clear hkl hc hks hs0
  clear hx hG hW hsw
  go_enter Tryd.func37, Tryd.ntmps37
  go_wp2_with fail
  refine (HSP.out w HG.out).mono ?_
  rintro e w1 ⟨rfl, hst, hb1⟩
  rw [HW.out] at hst ⊢
  rw [show (s0 :: r).length = r.length + 1 from rfl] at hst ⊢
  have q0 : w1.cell? ⟨w.heap.size, 0, none⟩ = some (.string s0) := str_cell hst 0 s0 rfl
  have lg := lt_of_cell q0
  dsimp only at lg
  have hbN : Below NB w w1 := ⟨hb1.os, hb1.tape, hb1.output, hb1.size, fun k hk => hb1.block k (by omega)⟩
  obtain ⟨k, hk0⟩ : ∃ k, r.length = k := ⟨_, rfl⟩
  obtain ⟨-, hc1, hwt⟩ := hst.tail
  rw [hk0] at hwt hrl ⊢
  rw [show k + 1 - 1 = k by omega] at hwt
  have hcase : (k = 0 ∧ StrSl w1 (.slice (some ⟨w.heap.size, 0, none⟩) 0 0) r) ∨ (¬ k = 0 ∧ StrSl w1 (.slice (some ⟨w.heap.size, 1, none⟩) k k) r) := by
    by_cases h : k = 0
    · exact .inl ⟨h, .inl ⟨some ⟨w.heap.size, 0, none⟩, 0, rfl, List.eq_nil_of_length_eq_zero (by omega)⟩⟩
    · exact .inr ⟨h, hwt⟩
  have HK0 := Lib.hid hk0
  have e8 : (0 : Int) < ((k + 1 : Nat) : Int) := by omega
  clear hwt hst hk0
  rcases hcase with ⟨hcz, hwt⟩ | ⟨hcz, hwt⟩
  all_goals
    have HWT := Lib.hid hwt
    clear hwt
    go_wp2_with fail
    refine (HIX.out (w1.alloc (.cells #[.string ⟨#[110]⟩, .string ⟨#[112]⟩, .string ⟨#[114]⟩] 9)) w1.heap.size (Blk.new _ rfl)).mono ?_
    rintro e w2 ⟨rfl, rfl⟩
    have hal : Below w1.heap.size w1 (w1.alloc (.cells #[.string ⟨#[110]⟩, .string ⟨#[112]⟩, .string ⟨#[114]⟩] 9)) := (Below.refl _ w1).alloc (Nat.le_refl _) _
    have HWT2 := Lib.hid (HWT.out.by hal)
    have hb2 : Below w.heap.size w (w1.alloc (.cells #[.string ⟨#[110]⟩, .string ⟨#[112]⟩, .string ⟨#[114]⟩] 9)) := below_on hal hb1
    have q1 := cell_by' hal q0
    have lg1 := lt_of_cell q1
    dsimp only at lg1
    clear hal HWT q0 lg hbN hb1
    generalize w1.alloc (.cells #[.string ⟨#[110]⟩, .string ⟨#[112]⟩, .string ⟨#[114]⟩] 9) = w2 at *
    go_wp2_with fail
    refine (HPC.out w2).mono ?_
    rintro e w3 ⟨rfl, rfl⟩
    go_wp2_with fail
    refine (HNU.out _ r 4 w2 HWT2.out (fun y hy => HWZ.out y (List.mem_cons_of_mem _ hy)) (by have := HK0.out; omega) (by have := hb2.size; omega) (HG.out.by hb2 (by omega))).mono ?_
    rintro e w3 ⟨v2, rfl, hzs, hb3⟩
    have hbM0 : Below w.heap.size w w3 := below_on hb3 hb2
    have hbM : Below NB w w3 := ⟨hbM0.os, hbM0.tape, hbM0.output, hbM0.size, fun k hk => hbM0.block k (by omega)⟩
    have q2 := cell_by' hb3 q1
    clear q1 lg1 HWT2
    rw [HC.out]
    clear hzs hb3 hb2 hbM0 q2
    go_wp2
    refine bodyPost_ret (v := .bool false) (by simp [results, Tryd.results37, go_sem, *]) rfl ⟨by rw [HL.out]; rfl, fun y hy => (by rw [HL.out] at hy; cases hy), hbM⟩
end Go.Proofs.YtglddnkpccgchaaDoor

/- The program's netLine, at a port's line and at a device's line that are taken. -/
namespace Go.Proofs.YtglddnkpccgchaaDoor
open Go.RowKit
set_option linter.unusedVariables false
set_option linter.unusedSimpArgs false

theorem cell_within {w w' : World} {lo hi g o : Nat} {v : Value} (hW : Within lo hi w w') (h : w.cell? ⟨g, o, none⟩ = some v) (hd : g < lo ∨ hi ≤ g) : w'.cell? ⟨g, o, none⟩ = some v := by
  have hg := lt_of_cell h
  dsimp only at hg
  have e := hW.block g hg hd
  unfold World.cell? at h ⊢
  dsimp only at h ⊢
  rw [e]
  exact h
theorem below_within {w w' : World} {lo hi B : Nat} (hW : Within lo hi w w') (hB : B ≤ lo) (hl : B ≤ w.heap.size) : Below B w w' := ⟨hW.os, hW.tape, hW.output, hW.size, fun k hk => hW.block k (by omega) (.inl (by omega))⟩
theorem below_less {w w' : World} {B C : Nat} (h : Below C w w') (hB : B ≤ C) : Below B w w' := ⟨h.os, h.tape, h.output, h.size, fun k hk => h.block k (by omega)⟩

set_option maxRecDepth 100000 in
set_option maxHeartbeats 2000000 in
theorem netl_p5 (x : Nl) (s s0 : ByteArray) (r : List ByteArray) (NB B lo : Nat) (w : World) (hW : wrdS 32 s = s0 :: r) (hs : s.size ≤ 1048576) (hx : BoxN w NB lo x) (hG : Glob B w) (hB : B ≤ NB) (nm a : ByteArray) (hk : s0.data.toList = wPortL) (hr : r = [nm, a]) (hn : nameB nm = true) (hb : x.ds = []) (m : Nat) (hnum : numL a.data.toList = some m) (hps : x.ps.length ≤ 8) :
    Calls Tryd.prog 37 #[.pointer (some ⟨NB, 0, none⟩), .string s, .bool false] w fun e w' => e = .returned (.bool (lineL false x (lsts (s0 :: r))).isSome) ∧ (∀ y, lineL false x (lsts (s0 :: r)) = some y → BoxN w' NB lo y) ∧ Below NB w w' := by
  have hmk : (⟨nm.data.toList.toArray⟩ : ByteArray) = nm := ba_ext rfl
  have HL : Hid (lineL false x (lsts (s0 :: r)) = some { x with ps := x.ps ++ [⟨nm, (m : Int)⟩] }) := Lib.hid (by
    subst hr
    unfold lsts lineL
    simp only [List.map_cons, List.map_nil, hk, Bool.false_eq_true, if_false, if_true, hmk]
    rw [if_pos ⟨hn, hb⟩, hnum])
  have hnb := hx.lt
  have HSP := Lib.hid (fun w hG => strings_Split_any s B w hs hG)
  have HW := Lib.hid hW
  have HX := Lib.hid hx
  have HG := Lib.hid hG
  have hsw := wrd_size 32 s
  rw [hW] at hsw
  have HWZ : Hid (∀ y ∈ s0 :: r, y.size ≤ 1048576) := Lib.hid (fun y hy => by have := hsw.1 y hy; omega)
  have hrl : r.length ≤ 1048576 := by have := hsw.2.1; simp at this; omega
  subst hr
  have HI := Lib.hid (fun w => implIsName_any nm w (by have := HWZ.out nm (by simp); omega))
  obtain ⟨a1, c1, a2, c2, kN0, -⟩ := HX.out.own
  have e0 := nets_word s0
  have ep := port_word s0
  rw [hk, decide_eq_false (by decide)] at e0
  rw [hk, decide_eq_true rfl] at ep
  rw [hn] at HI
  have e5 : decide ((0 : Int) < (x.ds.length : Int)) = false := decide_eq_false (by rw [hb]; simp)
  have e6 : decide (0 < x.ds.length) = false := decide_eq_false (by rw [hb]; simp)
  have e7 : x.ds.length = 0 := by rw [hb]; rfl
  have HNU := Lib.hid (fun v ss cnt w h hs hl hB hG => netNumbers_any v ss cnt B w h hs hl hB hG)
  obtain ⟨z, hz⟩ : ∃ z : Int, (m : Int) = z := ⟨_, rfl⟩
  have HZM := Lib.hid hz
  have HNN : Hid (numsL (lsts [a]) = some [z]) := Lib.hid (by unfold lsts; simp [numsL, hnum, hz])
  have HDS := Lib.hid hb
  clear hk hb hmk hn hnum hz
  clear hx hG hW hsw
  go_enter Tryd.func37, Tryd.ntmps37
  go_wp2_with fail
  refine (HSP.out w HG.out).mono ?_
  rintro e w1 ⟨rfl, hst, hb1⟩
  rw [HW.out] at hst ⊢
  rw [show (s0 :: [nm, a]).length = 3 from rfl] at hst ⊢
  have q0 : w1.cell? ⟨w.heap.size, 0, none⟩ = some (.string s0) := str_cell hst 0 s0 rfl
  have lg := lt_of_cell q0
  dsimp only at lg
  have hbN : Below NB w w1 := ⟨hb1.os, hb1.tape, hb1.output, hb1.size, fun k hk => hb1.block k (by omega)⟩
  have q1 : w1.cell? ⟨w.heap.size, 1, none⟩ = some (.string nm) := str_cell hst 1 nm rfl
  have hwt := hst.tail.2.2.tail.2.2
  have HWT : Hid (StrSl w1 (.slice (some ⟨w.heap.size, 2, none⟩) 1 1) [a]) := Lib.hid hwt
  have kN := Blk.by hb1 kN0
  have cN := kN.cell
  have lN := kN.lt
  clear hst kN0 hwt
  go_wp2_with (go_at_call 48; refine (HI.out _).mono ?_; rintro e w2 ⟨rfl, rfl⟩)
  refine (HNU.out _ [a] 1 w1 HWT.out (fun y hy => HWZ.out y (by simp at hy; subst hy; simp)) (by simp) (by omega) (HG.out.by hb1 (by omega))).mono ?_
  rintro e w2 ⟨v2, rfl, hzs, hb2⟩
  have hbM : Below NB w w2 := hbN.trans ⟨hb2.os, hb2.tape, hb2.output, hb2.size, fun k hk => hb2.block k (by omega)⟩
  rw [HNN.out]
  rw [show cntB (some [z]) 1 = true from rfl]
  have hB2 := hzs _ HNN.out
  rcases hB2.own with ⟨_, _, _, h0⟩ | ⟨G, c5, cs, rfl, hG1, hG2, hl1, hl2, hBk, hcell⟩
  · simp at h0
  have qz : w2.cell? ⟨G, 0, none⟩ = some (.int .i64 z) := (hBk.cell 0).trans (hcell 0 z rfl)
  have lz := lt_of_cell qz
  dsimp only at lz
  replace q1 := cell_by' hb2 q1
  obtain ⟨mid, dv, pv, L, kN1, hlo, hP1, hO1, hL1, hdn⟩ := HX.out
  have hmid : mid ≤ w.heap.size := hO1.1
  obtain rfl := hdn HDS.out
  obtain ⟨a3, c3, rfl⟩ := hP1.sized
  have hb12 := below_on hb2 hb1
  clear kN cN lN hO1 hL1 hdn e5 e6
  have kN := Blk.by hb12 kN1
  have hP := hP1.by hb12
  have hw1s := hb1.size
  have hw2s := hb2.size
  have hGm : mid ≤ G := by omega
  clear hb1 q0 lg HWT hbN hzs hb2 kN1 hP1 hB2 hBk hcell hG1 hl1 hb12
  go_upto_region 15 with fail
  obtain ⟨WB, hWB⟩ : ∃ q, w.heap.size = q := ⟨_, rfl⟩
  have hWBl : mid ≤ WB := by omega
  have hWB2 : w.heap.size ≤ WB := Nat.le_of_eq hWB
  rw [hWB] at q1
  rw [hWB]
  clear hWB
  have hS : (fun w' : World => Blk w' NB #[.int .i64 x.nets, .slice none 0 0, .slice a3 x.ps.length c3] 31 ∧ w'.cell? ⟨WB, 1, none⟩ = some (.string nm) ∧ w'.cell? ⟨G, 0, none⟩ = some (.int .i64 z)) { w2 with drawn := w2.drawn + 1 } := ⟨kN.drew, q1, qz⟩
  refine wp_region_any (by kernel_rfl) (wpAny_of_E (S := (fun w' : World => Blk w' NB #[.int .i64 x.nets, .slice none 0 0, .slice a3 x.ps.length c3] 31 ∧ w'.cell? ⟨WB, 1, none⟩ = some (.string nm) ∧ w'.cell? ⟨G, 0, none⟩ = some (.int .i64 z))) (l := 16) _ _ _ _ ?_)
  change wpAnyE _ _ _ _ _ _ _ _ _ w2.drew
  refine wpAnyE_takeL (i := 0) (v := ?_) rfl (by kernel_rfl) (fun _ _ _ h => h) (Or.inl ⟨by rfl, ?_⟩) hS ?_
  rotate_left
  · intro w hSw; (try dsimp only at hSw); have qA := hSw.1.cell; have lA := hSw.1.lt; have qB := hSw.2.1; have lB := lt_of_cell qB; have qC := hSw.2.2; have lC := lt_of_cell qC; (try dsimp only at lB lC); clear hSw; go_simp; (try with_reducible rfl)
  try simp only [Act.put, List.setIfInBounds_toArray, List.set_cons_zero, List.set_cons_succ]
  refine wpAnyE_takeL (i := 1) (v := ?_) rfl (by kernel_rfl) (fun _ _ _ h => h) (Or.inl ⟨by rfl, ?_⟩) hS ?_
  rotate_left
  · intro w hSw; (try dsimp only at hSw); have qA := hSw.1.cell; have lA := hSw.1.lt; have qB := hSw.2.1; have lB := lt_of_cell qB; have qC := hSw.2.2; have lC := lt_of_cell qC; (try dsimp only at lB lC); clear hSw; go_simp; (try with_reducible rfl)
  try simp only [Act.put, List.setIfInBounds_toArray, List.set_cons_zero, List.set_cons_succ]
  refine wpAnyE_takeL (i := 2) (v := ?_) rfl (by kernel_rfl) (fun _ _ _ h => h) (Or.inl ⟨by rfl, ?_⟩) hS ?_
  rotate_left
  · intro w hSw; (try dsimp only at hSw); have qA := hSw.1.cell; have lA := hSw.1.lt; have qB := hSw.2.1; have lB := lt_of_cell qB; have qC := hSw.2.2; have lC := lt_of_cell qC; (try dsimp only at lB lC); clear hSw; go_simp; (try with_reducible rfl)
  try simp only [Act.put, List.setIfInBounds_toArray, List.set_cons_zero, List.set_cons_succ]
  refine wpAnyE_takeL (i := 3) (v := ?_) rfl (by kernel_rfl) (fun _ _ _ h => h) (Or.inl ⟨by rfl, ?_⟩) hS ?_
  rotate_left
  · intro w hSw; (try dsimp only at hSw); have qA := hSw.1.cell; have lA := hSw.1.lt; have qB := hSw.2.1; have lB := lt_of_cell qB; have qC := hSw.2.2; have lC := lt_of_cell qC; (try dsimp only at lB lC); clear hSw; go_simp; (try with_reducible rfl)
  try simp only [Act.put, List.setIfInBounds_toArray, List.set_cons_zero, List.set_cons_succ]
  refine wpAnyE_takeL (i := 4) (v := ?_) rfl (by kernel_rfl) (fun _ _ _ h => h) (Or.inl ⟨by rfl, ?_⟩) hS ?_
  rotate_left
  · intro w hSw; (try dsimp only at hSw); have qA := hSw.1.cell; have lA := hSw.1.lt; have qB := hSw.2.1; have lB := lt_of_cell qB; have qC := hSw.2.2; have lC := lt_of_cell qC; (try dsimp only at lB lC); clear hSw; go_simp; (try with_reducible rfl)
  try simp only [Act.put, List.setIfInBounds_toArray, List.set_cons_zero, List.set_cons_succ]
  refine wpAnyE_takeL (i := 5) (v := ?_) rfl (by kernel_rfl) (fun _ _ _ h => h) (Or.inl ⟨by rfl, ?_⟩) hS ?_
  rotate_left
  · intro w hSw; (try dsimp only at hSw); have qA := hSw.1.cell; have lA := hSw.1.lt; have qB := hSw.2.1; have lB := lt_of_cell qB; have qC := hSw.2.2; have lC := lt_of_cell qC; (try dsimp only at lB lC); clear hSw; go_simp; (try with_reducible rfl)
  try simp only [Act.put, List.setIfInBounds_toArray, List.set_cons_zero, List.set_cons_succ]
  refine wpAnyE_takeL (i := 6) (v := ?_) rfl (by kernel_rfl) (fun _ _ _ h => h) (Or.inl ⟨by rfl, ?_⟩) hS ?_
  rotate_left
  · intro w hSw; (try dsimp only at hSw); have qA := hSw.1.cell; have lA := hSw.1.lt; have qB := hSw.2.1; have lB := lt_of_cell qB; have qC := hSw.2.2; have lC := lt_of_cell qC; (try dsimp only at lB lC); clear hSw; go_simp; (try with_reducible rfl)
  try simp only [Act.put, List.setIfInBounds_toArray, List.set_cons_zero, List.set_cons_succ]
  refine wpAnyE_takeL (i := 7) (v := ?_) rfl (by kernel_rfl) (fun _ _ _ h => h) (Or.inl ⟨by rfl, ?_⟩) hS ?_
  rotate_left
  · intro w hSw; (try dsimp only at hSw); have qA := hSw.1.cell; have lA := hSw.1.lt; have qB := hSw.2.1; have lB := lt_of_cell qB; have qC := hSw.2.2; have lC := lt_of_cell qC; (try dsimp only at lB lC); clear hSw; go_simp; (try with_reducible rfl)
  try simp only [Act.put, List.setIfInBounds_toArray, List.set_cons_zero, List.set_cons_succ]
  refine wpAnyE_takeL (i := 8) (v := ?_) rfl (by kernel_rfl) (fun _ _ _ h => h) (Or.inl ⟨by rfl, ?_⟩) hS ?_
  rotate_left
  · intro w hSw; (try dsimp only at hSw); have qA := hSw.1.cell; have lA := hSw.1.lt; have qB := hSw.2.1; have lB := lt_of_cell qB; have qC := hSw.2.2; have lC := lt_of_cell qC; (try dsimp only at lB lC); clear hSw; go_simp; (try with_reducible rfl)
  try simp only [Act.put, List.setIfInBounds_toArray, List.set_cons_zero, List.set_cons_succ]
  refine wpAnyE_takeL (i := 9) (v := ?_) rfl (by kernel_rfl) (fun _ _ _ h => h) (Or.inl ⟨by rfl, ?_⟩) hS ?_
  rotate_left
  · intro w hSw; (try dsimp only at hSw); have qA := hSw.1.cell; have lA := hSw.1.lt; have qB := hSw.2.1; have lB := lt_of_cell qB; have qC := hSw.2.2; have lC := lt_of_cell qC; (try dsimp only at lB lC); clear hSw; go_simp; (try with_reducible rfl)
  try simp only [Act.put, List.setIfInBounds_toArray, List.set_cons_zero, List.set_cons_succ]
  refine wpAnyE_takeL (i := 10) (v := ?_) rfl (by kernel_rfl) (fun _ _ _ h => h) (Or.inl ⟨by rfl, ?_⟩) hS ?_
  rotate_left
  · intro w hSw; (try dsimp only at hSw); have qA := hSw.1.cell; have lA := hSw.1.lt; have qB := hSw.2.1; have lB := lt_of_cell qB; have qC := hSw.2.2; have lC := lt_of_cell qC; (try dsimp only at lB lC); clear hSw; go_simp; (try with_reducible rfl)
  try simp only [Act.put, List.setIfInBounds_toArray, List.set_cons_zero, List.set_cons_succ]
  refine wpAnyE_takeL (i := 11) (v := ?_) rfl (by kernel_rfl) (fun _ _ _ h => h) (Or.inl ⟨by rfl, ?_⟩) hS ?_
  rotate_left
  · intro w hSw; (try dsimp only at hSw); have qA := hSw.1.cell; have lA := hSw.1.lt; have qB := hSw.2.1; have lB := lt_of_cell qB; have qC := hSw.2.2; have lC := lt_of_cell qC; (try dsimp only at lB lC); clear hSw; go_simp; (try with_reducible rfl)
  try simp only [Act.put, List.setIfInBounds_toArray, List.set_cons_zero, List.set_cons_succ]
  obtain ⟨y0, hy0⟩ : ∃ q, q = w2.drew := ⟨_, rfl⟩
  have hbc : Below w2.heap.size w2 y0 := by rw [hy0]; exact (Below.refl _ w2).drew
  have kNc := Blk.by hbc kN
  have hPc := hP.by hbc
  have p1c := cell_by' hbc q1
  have p2c := cell_by' hbc qz
  rw [← hy0]
  clear hy0
  refine wpAnyE_oneL (k := 12) (by kernel_rfl) rfl (fun K hK => ?_)
  go_simp
  have hal : Below y0.heap.size y0 (y0.alloc (.cells #[.string nm, .int .i64 z] 49)) := (Below.refl _ y0).alloc (Nat.le_refl _) _
  have hsz0 := hbc.size
  replace kNc := Blk.by hal kNc
  replace hPc := hPc.by hal
  replace p1c := cell_by' hal p1c
  replace p2c := cell_by' hal p2c
  replace hbc := below_on hal hbc
  have kP : Blk (y0.alloc (.cells #[.string nm, .int .i64 z] 49)) y0.heap.size #[.string nm, .int .i64 z] 49 := Blk.new _ rfl
  refine hK.out _ _ (fun _ => ⟨kNc, p1c, p2c⟩) ?_
  try simp only [Act.put, List.setIfInBounds_toArray, List.set_cons_zero, List.set_cons_succ]
  clear hal hK
  generalize y0.alloc (.cells #[.string nm, .int .i64 z] 49) = y1 at *
  generalize y0.heap.size = PB at *
  refine wpAnyE_oneL (k := 13) (by kernel_rfl) rfl (fun K hK => ?_)
  refine step_pushP (by rfl) _ _ (by rfl) lo mid (.slice a3 x.ps.length c3) x.ps (by rfl) hPc PB ⟨nm, z⟩ (by rfl) kP (by omega) (by omega) ?_
  intro ab cb y2 hP3 hWi
  have hNy := kNc.lt
  have kN3 : Blk y2 NB #[.int .i64 x.nets, .slice none 0 0, .slice a3 x.ps.length c3] 31 := hWi.blk kNc (by omega)
  have hb3 : Below NB w2 y2 := (below_less hbc (by omega)).trans (below_within hWi (by omega) (by omega))
  have hsy := hWi.size
  refine hK.out _ _ (fun _ => ⟨kN3, cell_within hWi p1c (.inr hWBl), cell_within hWi p2c (.inr (by omega))⟩) ?_
  try simp only [Act.put, List.setIfInBounds_toArray, List.set_cons_zero, List.set_cons_succ]
  clear hK
  have hS2 : (fun w' : World => Blk w' NB #[.int .i64 x.nets, .slice none 0 0, .slice a3 x.ps.length c3] 31 ∧ w'.cell? ⟨WB, 1, none⟩ = some (.string nm) ∧ w'.cell? ⟨G, 0, none⟩ = some (.int .i64 z)) y2 := ⟨kN3, cell_within hWi p1c (.inr hWBl), cell_within hWi p2c (.inr (by omega))⟩
  refine wpAnyE_takeL (i := 14) (v := ?_) rfl (by kernel_rfl) (fun _ _ _ h => h) (Or.inl ⟨by rfl, ?_⟩) hS2 ?_
  rotate_left
  · intro w hSw; (try dsimp only at hSw); have qA := hSw.1.cell; have lA := hSw.1.lt; have qB := hSw.2.1; have lB := lt_of_cell qB; have qC := hSw.2.2; have lC := lt_of_cell qC; (try dsimp only at lB lC); clear hSw; go_simp; (try with_reducible rfl)
  try simp only [Act.put, List.setIfInBounds_toArray, List.set_cons_zero, List.set_cons_succ]
  refine wpAnyE_takeL (i := 15) (v := ?_) rfl (by kernel_rfl) (fun _ _ _ h => h) (Or.inl ⟨by rfl, ?_⟩) hS2 ?_
  rotate_left
  · intro w hSw; (try dsimp only at hSw); have qA := hSw.1.cell; have lA := hSw.1.lt; have qB := hSw.2.1; have lB := lt_of_cell qB; have qC := hSw.2.2; have lC := lt_of_cell qC; (try dsimp only at lB lC); clear hSw; go_simp; (try with_reducible rfl)
  try simp only [Act.put, List.setIfInBounds_toArray, List.set_cons_zero, List.set_cons_succ]
  have hPl := kP.lt
  refine wpAnyE_oneL (k := 16) (by kernel_rfl) rfl (fun K hK => ?_)
  have cN := kN3.cell
  have fN := kN3.free
  have lN := kN3.lt
  go_simp
  refine hK.out _ _ (fun h => absurd rfl h) ?_
  refine wpAnyE_done (by kernel_rfl) ?_ _
  clear hS hS2 hK p1c p2c q1 qz kN kNc hPc hP kP
  have hbf : Below NB w (y2.setCell ⟨NB, 2, none⟩ (.slice ab (x.ps.length + 1) cb)) := (hbM.trans hb3).setCell (Nat.le_refl _) _
  have HBX := Lib.hid (BoxN.port (mid := mid) kN3 hlo.1 (by omega) hP3 HDS.out)
  clear cN fN lN kN3 hb3 hP3
  generalize y2.setCell ⟨NB, 2, none⟩ (.slice ab (x.ps.length + 1) cb) = y3 at *
  go_wp2
  refine bodyPost_ret (v := .bool true) (by simp [results, Tryd.results37, go_sem, *]) rfl ⟨by rw [HL.out]; rfl, fun y hy => ?_, hbf⟩
  rw [HL.out] at hy
  obtain rfl := (Option.some.inj hy).symm
  rw [HZM.out]
  exact HBX.out

set_option maxRecDepth 100000 in
set_option maxHeartbeats 2000000 in
theorem netl_d_0 (x : Nl) (s s0 : ByteArray) (r : List ByteArray) (NB B lo : Nat) (w : World) (hW : wrdS 32 s = s0 :: r) (hs : s.size ≤ 1048576) (hx : BoxN w NB lo x) (hG : Glob B w) (hB : B ≤ NB) (zs : List Int) (WD LN : Int) (hkl : kindL s0.data.toList = some 0) (hn : numsL (lsts r) = some zs) (hz : zs.length = 5) (hwd : zs[3]? = some WD) (hln : zs[4]? = some LN) (hds : x.ds.length ≤ 24) :
    Calls Tryd.prog 37 #[.pointer (some ⟨NB, 0, none⟩), .string s, .bool false] w fun e w' => e = .returned (.bool (lineL false x (lsts (s0 :: r))).isSome) ∧ (∀ y, lineL false x (lsts (s0 :: r)) = some y → BoxN w' NB lo y) ∧ Below NB w w' := by
  have HL : Hid (lineL false x (lsts (s0 :: r)) = some { x with ds := x.ds ++ [⟨0, zs.take 3, WD, LN⟩] }) := Lib.hid (by
    have hk : ¬ s0.data.toList = wPortL := by
      intro e
      rw [e] at hkl
      exact absurd hkl (by decide)
    unfold lsts lineL
    simp only [List.map_cons, hk, Bool.false_eq_true, if_false, hkl]
    rw [show numsL (r.map fun b : ByteArray => b.data.toList) = some zs from hn]
    dsimp only
    rw [show pinN 0 = 3 from rfl, if_pos hz, hwd, hln]
    rfl)
  have hrl2 : r.length = 5 := by have := (numsL_words hn).1; rw [hz] at this; simpa [lsts] using this.symm
  have HCT : Hid (cntB (numsL (lsts r)) 5 = true) := Lib.hid (by
    rw [hn, show cntB (some zs) 5 = ((zs.length : Int) == 5) from rfl, hz]
    rfl)
  have HN := Lib.hid hn
  have HZ := Lib.hid hz
  have HWD := Lib.hid (And.intro hwd hln)
  have HRL := Lib.hid hrl2
  have hnb := hx.lt
  have HSP := Lib.hid (fun w hG => strings_Split_any s B w hs hG)
  have HW := Lib.hid hW
  have HX := Lib.hid hx
  have HG := Lib.hid hG
  have hsw := wrd_size 32 s
  rw [hW] at hsw
  have HWZ : Hid (∀ y ∈ s0 :: r, y.size ≤ 1048576) := Lib.hid (fun y hy => by have := hsw.1 y hy; omega)
  have hrl : r.length ≤ 1048576 := by have := hsw.2.1; simp at this; omega
  have e0 := nets_word s0
  have ep := port_word s0
  have en := word_n s0
  have eq := word_p s0
  have er := word_r s0
  have hks : s0.data.toList = [110] := by
    obtain ⟨h1, -⟩ := kindL_word hkl
    rw [← h1]; rfl
  have hs0 : s0 = ⟨#[110]⟩ := ba_ext (by rw [hks])
  rw [decide_eq_false (by rw [hks]; decide)] at e0
  rw [decide_eq_false (by rw [hks]; decide)] at ep
  rw [decide_eq_true hks] at en
  rw [decide_eq_false (by rw [hks]; decide)] at eq
  rw [decide_eq_false (by rw [hks]; decide)] at er
  have HIX : Hid (∀ (w : World) (g : Nat), Blk w g #[.string ⟨#[110]⟩, .string ⟨#[112]⟩, .string ⟨#[114]⟩] 9 → Calls Tryd.prog 70 #[.slice (some ⟨g, 0, none⟩) 3 3, .string s0] w fun e w' => e = .returned (.int .i64 0) ∧ w' = w) := Lib.hid (fun w g hB => by
    have h := Tryd.slices_Index_string g 0 3 3 [⟨#[110]⟩, ⟨#[112]⟩, ⟨#[114]⟩] s0 w (by decide) (by decide) (fun j hj => by
      rw [hB.cell]
      match j, hj with
      | 0, _ => rfl
      | 1, _ => rfl
      | 2, _ => rfl
      | j + 3, hj => simp at hj; omega)
    have e : Go.Lib.idxOfS ([⟨#[110]⟩, ⟨#[112]⟩, ⟨#[114]⟩].take 3) s0 = 0 := by rw [hs0]; decide
    rw [e] at h
    exact h)
  have HPC : Hid (∀ w : World, Calls Tryd.prog 71 #[.int .i64 0] w fun e w' => e = .returned (.int .i64 3) ∧ w = w') := Lib.hid (fun w => pinCount_any 0 w)
  have HNU := Lib.hid (fun v ss cnt w h hs hl hB hG => netNumbers_any v ss cnt B w h hs hl hB hG)
  clear hkl hks hs0 hn hz hwd hln hrl2
  clear hx hG hW hsw
  go_enter Tryd.func37, Tryd.ntmps37
  go_wp2_with fail
  refine (HSP.out w HG.out).mono ?_
  rintro e w1 ⟨rfl, hst, hb1⟩
  rw [HW.out] at hst ⊢
  rw [show (s0 :: r).length = r.length + 1 from rfl] at hst ⊢
  have q0 : w1.cell? ⟨w.heap.size, 0, none⟩ = some (.string s0) := str_cell hst 0 s0 rfl
  have lg := lt_of_cell q0
  dsimp only at lg
  have hbN : Below NB w w1 := ⟨hb1.os, hb1.tape, hb1.output, hb1.size, fun k hk => hb1.block k (by omega)⟩
  rw [HRL.out] at hst ⊢
  have HWT : Hid (StrSl w1 (.slice (some ⟨w.heap.size, 1, none⟩) 5 5) r) := Lib.hid hst.tail.2.2
  have HK0 := HRL
  clear hst
  go_wp2_with fail
  refine (HIX.out (w1.alloc (.cells #[.string ⟨#[110]⟩, .string ⟨#[112]⟩, .string ⟨#[114]⟩] 9)) w1.heap.size (Blk.new _ rfl)).mono ?_
  rintro e w2 ⟨rfl, rfl⟩
  have hal : Below w1.heap.size w1 (w1.alloc (.cells #[.string ⟨#[110]⟩, .string ⟨#[112]⟩, .string ⟨#[114]⟩] 9)) := (Below.refl _ w1).alloc (Nat.le_refl _) _
  have HWT2 := Lib.hid (HWT.out.by hal)
  have hb2 : Below w.heap.size w (w1.alloc (.cells #[.string ⟨#[110]⟩, .string ⟨#[112]⟩, .string ⟨#[114]⟩] 9)) := below_on hal hb1
  have q1 := cell_by' hal q0
  have lg1 := lt_of_cell q1
  dsimp only at lg1
  clear hal HWT q0 lg hbN hb1
  generalize w1.alloc (.cells #[.string ⟨#[110]⟩, .string ⟨#[112]⟩, .string ⟨#[114]⟩] 9) = w2 at *
  go_wp2_with fail
  refine (HPC.out w2).mono ?_
  rintro e w3 ⟨rfl, rfl⟩
  go_wp2_with fail
  refine (HNU.out _ r 5 w2 HWT2.out (fun y hy => HWZ.out y (List.mem_cons_of_mem _ hy)) (by have := HK0.out; omega) (by have := hb2.size; omega) (HG.out.by hb2 (by omega))).mono ?_
  rintro e w3 ⟨v2, rfl, hzs, hb3⟩
  have hbM0 : Below w.heap.size w w3 := below_on hb3 hb2
  have hbM : Below NB w w3 := ⟨hbM0.os, hbM0.tape, hbM0.output, hbM0.size, fun k hk => hbM0.block k (by omega)⟩
  have q2 := cell_by' hb3 q1
  clear q1 lg1 HWT2
  rw [HCT.out]
  have hB2 := hzs _ HN.out
  rcases hB2.own with ⟨_, _, _, h0⟩ | ⟨G, c5, cs, rfl, hG1, hG2, hl1, hl2, hBk, hcell⟩
  · have := HZ.out; rw [h0] at this; simp at this
  rw [HZ.out] at hl1 ⊢
  have p1 : w3.cell? ⟨G, 3, none⟩ = some (.int .i64 WD) := (hBk.cell _).trans (hcell _ _ HWD.out.1)
  have p2 : w3.cell? ⟨G, 4, none⟩ = some (.int .i64 LN) := (hBk.cell _).trans (hcell _ _ HWD.out.2)
  have HPI : Hid (OwnR w3 G (G + 1) (.slice (some ⟨G, 0, none⟩) 3 3) (zs.take 3)) := Lib.hid (.inr ⟨G, 3, cs, by rw [List.length_take, HZ.out]; rfl, Nat.le_refl _, Nat.lt_succ_self _, by rw [List.length_take, HZ.out]; decide, by decide, hBk, fun i y hy => hcell i y (by
    have := (List.getElem?_eq_some_iff.1 hy).1
    rw [List.length_take] at this
    rw [List.getElem?_take_of_lt (by omega)] at hy
    exact hy)⟩)
  obtain ⟨mid, dv, pv, L, kN1, hlo, hP1, hO1, hL1, hdn⟩ := HX.out
  have hmid : mid ≤ w.heap.size := hO1.1
  obtain ⟨ll, hll⟩ : ∃ q, L.length = q := ⟨_, rfl⟩
  have hllb : ll ≤ 24 := by rw [← hll, ← List.length_map (f := fun t : Tr => t.1), hL1]; exact hds
  obtain ⟨a3, c3, rfl⟩ := hO1.sized
  obtain ⟨a4, c4, rfl⟩ := hP1.sized
  rw [hll] at hO1 kN1
  have HLL := Lib.hid hll
  have HL1 := Lib.hid hL1
  have HO2 := Lib.hid (hO1.by hb2)
  have HP2 := Lib.hid (hP1.by hb2)
  have kN := Blk.by hbM0 kN1
  have hw2s := hb2.size
  have hw3s := hb3.size
  have hGl := hBk.lt
  have hc53 : (3 : Int) ≤ (c5 : Int) := by omega
  have hc54 : 3 ≤ c5 := by omega
  have hw4 : IntKind.i64.wrap 4 = 4 := rfl
  have lz := lt_of_cell p1
  dsimp only at lz
  clear hb2 kN1 hP1 hO1 hL1 hll hdn hB2 hBk hcell hl1 hzs hbM0
  go_upto_region 24 with fail
  have hS : (fun w' : World => Blk w' NB #[.int .i64 x.nets, .slice a3 ll c3, .slice a4 x.ps.length c4] 31 ∧ w'.cell? ⟨G, 3, none⟩ = some (.int .i64 WD) ∧ w'.cell? ⟨G, 4, none⟩ = some (.int .i64 LN)) { w3 with drawn := w3.drawn + 1 } := ⟨kN.drew, p1, p2⟩
  refine wp_region_any (by kernel_rfl) (wpAny_of_E (S := (fun w' : World => Blk w' NB #[.int .i64 x.nets, .slice a3 ll c3, .slice a4 x.ps.length c4] 31 ∧ w'.cell? ⟨G, 3, none⟩ = some (.int .i64 WD) ∧ w'.cell? ⟨G, 4, none⟩ = some (.int .i64 LN))) (l := 24) _ _ _ _ ?_)
  change wpAnyE _ _ _ _ _ _ _ _ _ w3.drew
  refine wpAnyE_takeL (i := 0) (v := ?_) rfl (by kernel_rfl) (fun _ _ _ h => h) (Or.inl ⟨by rfl, ?_⟩) hS ?_
  rotate_left
  · intro w hSw; (try dsimp only at hSw); have qA := hSw.1.cell; have lA := hSw.1.lt; have qB := hSw.2.1; have lB := lt_of_cell qB; have qC := hSw.2.2; have lC := lt_of_cell qC; (try dsimp only at lB lC); clear hSw; go_simp; (try with_reducible rfl)
  try simp only [Act.put, List.setIfInBounds_toArray, List.set_cons_zero, List.set_cons_succ]
  refine wpAnyE_takeL (i := 1) (v := ?_) rfl (by kernel_rfl) (fun _ _ _ h => h) (Or.inl ⟨by rfl, ?_⟩) hS ?_
  rotate_left
  · intro w hSw; (try dsimp only at hSw); have qA := hSw.1.cell; have lA := hSw.1.lt; have qB := hSw.2.1; have lB := lt_of_cell qB; have qC := hSw.2.2; have lC := lt_of_cell qC; (try dsimp only at lB lC); clear hSw; go_simp; (try with_reducible rfl)
  try simp only [Act.put, List.setIfInBounds_toArray, List.set_cons_zero, List.set_cons_succ]
  refine wpAnyE_takeL (i := 2) (v := ?_) rfl (by kernel_rfl) (fun _ _ _ h => h) (Or.inl ⟨by rfl, ?_⟩) hS ?_
  rotate_left
  · intro w hSw; (try dsimp only at hSw); have qA := hSw.1.cell; have lA := hSw.1.lt; have qB := hSw.2.1; have lB := lt_of_cell qB; have qC := hSw.2.2; have lC := lt_of_cell qC; (try dsimp only at lB lC); clear hSw; go_simp; (try with_reducible rfl)
  try simp only [Act.put, List.setIfInBounds_toArray, List.set_cons_zero, List.set_cons_succ]
  refine wpAnyE_takeL (i := 3) (v := ?_) rfl (by kernel_rfl) (fun _ _ _ h => h) (Or.inl ⟨by rfl, ?_⟩) hS ?_
  rotate_left
  · intro w hSw; (try dsimp only at hSw); have qA := hSw.1.cell; have lA := hSw.1.lt; have qB := hSw.2.1; have lB := lt_of_cell qB; have qC := hSw.2.2; have lC := lt_of_cell qC; (try dsimp only at lB lC); clear hSw; go_simp; (try with_reducible rfl)
  try simp only [Act.put, List.setIfInBounds_toArray, List.set_cons_zero, List.set_cons_succ]
  refine wpAnyE_takeL (i := 4) (v := ?_) rfl (by kernel_rfl) (fun _ _ _ h => h) (Or.inl ⟨by rfl, ?_⟩) hS ?_
  rotate_left
  · intro w hSw; (try dsimp only at hSw); have qA := hSw.1.cell; have lA := hSw.1.lt; have qB := hSw.2.1; have lB := lt_of_cell qB; have qC := hSw.2.2; have lC := lt_of_cell qC; (try dsimp only at lB lC); clear hSw; go_simp; (try with_reducible rfl)
  try simp only [Act.put, List.setIfInBounds_toArray, List.set_cons_zero, List.set_cons_succ]
  refine wpAnyE_takeL (i := 5) (v := ?_) rfl (by kernel_rfl) (fun _ _ _ h => h) (Or.inl ⟨by rfl, ?_⟩) hS ?_
  rotate_left
  · intro w hSw; (try dsimp only at hSw); have qA := hSw.1.cell; have lA := hSw.1.lt; have qB := hSw.2.1; have lB := lt_of_cell qB; have qC := hSw.2.2; have lC := lt_of_cell qC; (try dsimp only at lB lC); clear hSw; go_simp; (try with_reducible rfl)
  try simp only [Act.put, List.setIfInBounds_toArray, List.set_cons_zero, List.set_cons_succ]
  refine wpAnyE_takeL (i := 6) (v := ?_) rfl (by kernel_rfl) (fun _ _ _ h => h) (Or.inl ⟨by rfl, ?_⟩) hS ?_
  rotate_left
  · intro w hSw; (try dsimp only at hSw); have qA := hSw.1.cell; have lA := hSw.1.lt; have qB := hSw.2.1; have lB := lt_of_cell qB; have qC := hSw.2.2; have lC := lt_of_cell qC; (try dsimp only at lB lC); clear hSw; go_simp; (try with_reducible rfl)
  try simp only [Act.put, List.setIfInBounds_toArray, List.set_cons_zero, List.set_cons_succ]
  refine wpAnyE_takeL (i := 7) (v := ?_) rfl (by kernel_rfl) (fun _ _ _ h => h) (Or.inl ⟨by rfl, ?_⟩) hS ?_
  rotate_left
  · intro w hSw; (try dsimp only at hSw); have qA := hSw.1.cell; have lA := hSw.1.lt; have qB := hSw.2.1; have lB := lt_of_cell qB; have qC := hSw.2.2; have lC := lt_of_cell qC; (try dsimp only at lB lC); clear hSw; go_simp; (try with_reducible rfl)
  try simp only [Act.put, List.setIfInBounds_toArray, List.set_cons_zero, List.set_cons_succ]
  refine wpAnyE_takeL (i := 8) (v := ?_) rfl (by kernel_rfl) (fun _ _ _ h => h) (Or.inl ⟨by rfl, ?_⟩) hS ?_
  rotate_left
  · intro w hSw; (try dsimp only at hSw); have qA := hSw.1.cell; have lA := hSw.1.lt; have qB := hSw.2.1; have lB := lt_of_cell qB; have qC := hSw.2.2; have lC := lt_of_cell qC; (try dsimp only at lB lC); clear hSw; go_simp; (try with_reducible rfl)
  try simp only [Act.put, List.setIfInBounds_toArray, List.set_cons_zero, List.set_cons_succ]
  refine wpAnyE_takeL (i := 9) (v := ?_) rfl (by kernel_rfl) (fun _ _ _ h => h) (Or.inl ⟨by rfl, ?_⟩) hS ?_
  rotate_left
  · intro w hSw; (try dsimp only at hSw); have qA := hSw.1.cell; have lA := hSw.1.lt; have qB := hSw.2.1; have lB := lt_of_cell qB; have qC := hSw.2.2; have lC := lt_of_cell qC; (try dsimp only at lB lC); clear hSw; go_simp; (try with_reducible rfl)
  try simp only [Act.put, List.setIfInBounds_toArray, List.set_cons_zero, List.set_cons_succ]
  refine wpAnyE_takeL (i := 10) (v := ?_) rfl (by kernel_rfl) (fun _ _ _ h => h) (Or.inl ⟨by rfl, ?_⟩) hS ?_
  rotate_left
  · intro w hSw; (try dsimp only at hSw); have qA := hSw.1.cell; have lA := hSw.1.lt; have qB := hSw.2.1; have lB := lt_of_cell qB; have qC := hSw.2.2; have lC := lt_of_cell qC; (try dsimp only at lB lC); clear hSw; go_simp; (try with_reducible rfl)
  try simp only [Act.put, List.setIfInBounds_toArray, List.set_cons_zero, List.set_cons_succ]
  refine wpAnyE_takeL (i := 11) (v := ?_) rfl (by kernel_rfl) (fun _ _ _ h => h) (Or.inl ⟨by rfl, ?_⟩) hS ?_
  rotate_left
  · intro w hSw; (try dsimp only at hSw); have qA := hSw.1.cell; have lA := hSw.1.lt; have qB := hSw.2.1; have lB := lt_of_cell qB; have qC := hSw.2.2; have lC := lt_of_cell qC; (try dsimp only at lB lC); clear hSw; go_simp; (try with_reducible rfl)
  try simp only [Act.put, List.setIfInBounds_toArray, List.set_cons_zero, List.set_cons_succ]
  refine wpAnyE_takeL (i := 12) (v := ?_) rfl (by kernel_rfl) (fun _ _ _ h => h) (Or.inl ⟨by rfl, ?_⟩) hS ?_
  rotate_left
  · intro w hSw; (try dsimp only at hSw); have qA := hSw.1.cell; have lA := hSw.1.lt; have qB := hSw.2.1; have lB := lt_of_cell qB; have qC := hSw.2.2; have lC := lt_of_cell qC; (try dsimp only at lB lC); clear hSw; go_simp; (try with_reducible rfl)
  try simp only [Act.put, List.setIfInBounds_toArray, List.set_cons_zero, List.set_cons_succ]
  refine wpAnyE_takeL (i := 13) (v := ?_) rfl (by kernel_rfl) (fun _ _ _ h => h) (Or.inl ⟨by rfl, ?_⟩) hS ?_
  rotate_left
  · intro w hSw; (try dsimp only at hSw); have qA := hSw.1.cell; have lA := hSw.1.lt; have qB := hSw.2.1; have lB := lt_of_cell qB; have qC := hSw.2.2; have lC := lt_of_cell qC; (try dsimp only at lB lC); clear hSw; go_simp; (try with_reducible rfl)
  try simp only [Act.put, List.setIfInBounds_toArray, List.set_cons_zero, List.set_cons_succ]
  refine wpAnyE_takeL (i := 14) (v := ?_) rfl (by kernel_rfl) (fun _ _ _ h => h) (Or.inl ⟨by rfl, ?_⟩) hS ?_
  rotate_left
  · intro w hSw; (try dsimp only at hSw); have qA := hSw.1.cell; have lA := hSw.1.lt; have qB := hSw.2.1; have lB := lt_of_cell qB; have qC := hSw.2.2; have lC := lt_of_cell qC; (try dsimp only at lB lC); clear hSw; go_simp; (try with_reducible rfl)
  try simp only [Act.put, List.setIfInBounds_toArray, List.set_cons_zero, List.set_cons_succ]
  refine wpAnyE_takeL (i := 15) (v := ?_) rfl (by kernel_rfl) (fun _ _ _ h => h) (Or.inl ⟨by rfl, ?_⟩) hS ?_
  rotate_left
  · intro w hSw; (try dsimp only at hSw); have qA := hSw.1.cell; have lA := hSw.1.lt; have qB := hSw.2.1; have lB := lt_of_cell qB; have qC := hSw.2.2; have lC := lt_of_cell qC; (try dsimp only at lB lC); clear hSw; go_simp; (try with_reducible rfl)
  try simp only [Act.put, List.setIfInBounds_toArray, List.set_cons_zero, List.set_cons_succ]
  refine wpAnyE_takeL (i := 16) (v := ?_) rfl (by kernel_rfl) (fun _ _ _ h => h) (Or.inl ⟨by rfl, ?_⟩) hS ?_
  rotate_left
  · intro w hSw; (try dsimp only at hSw); have qA := hSw.1.cell; have lA := hSw.1.lt; have qB := hSw.2.1; have lB := lt_of_cell qB; have qC := hSw.2.2; have lC := lt_of_cell qC; (try dsimp only at lB lC); clear hSw; go_simp; (try with_reducible rfl)
  try simp only [Act.put, List.setIfInBounds_toArray, List.set_cons_zero, List.set_cons_succ]
  refine wpAnyE_takeL (i := 17) (v := ?_) rfl (by kernel_rfl) (fun _ _ _ h => h) (Or.inl ⟨by rfl, ?_⟩) hS ?_
  rotate_left
  · intro w hSw; (try dsimp only at hSw); have qA := hSw.1.cell; have lA := hSw.1.lt; have qB := hSw.2.1; have lB := lt_of_cell qB; have qC := hSw.2.2; have lC := lt_of_cell qC; (try dsimp only at lB lC); clear hSw; go_simp; (try with_reducible rfl)
  try simp only [Act.put, List.setIfInBounds_toArray, List.set_cons_zero, List.set_cons_succ]
  refine wpAnyE_takeL (i := 18) (v := ?_) rfl (by kernel_rfl) (fun _ _ _ h => h) (Or.inl ⟨by rfl, ?_⟩) hS ?_
  rotate_left
  · intro w hSw; (try dsimp only at hSw); have qA := hSw.1.cell; have lA := hSw.1.lt; have qB := hSw.2.1; have lB := lt_of_cell qB; have qC := hSw.2.2; have lC := lt_of_cell qC; (try dsimp only at lB lC); clear hSw; go_simp; (try with_reducible rfl)
  try simp only [Act.put, List.setIfInBounds_toArray, List.set_cons_zero, List.set_cons_succ]
  refine wpAnyE_takeL (i := 19) (v := ?_) rfl (by kernel_rfl) (fun _ _ _ h => h) (Or.inl ⟨by rfl, ?_⟩) hS ?_
  rotate_left
  · intro w hSw; (try dsimp only at hSw); have qA := hSw.1.cell; have lA := hSw.1.lt; have qB := hSw.2.1; have lB := lt_of_cell qB; have qC := hSw.2.2; have lC := lt_of_cell qC; (try dsimp only at lB lC); clear hSw; go_simp; (try with_reducible rfl)
  try simp only [Act.put, List.setIfInBounds_toArray, List.set_cons_zero, List.set_cons_succ]
  obtain ⟨y0, hy0⟩ : ∃ q, q = w3.drew := ⟨_, rfl⟩
  have hbc : Below w3.heap.size w3 y0 := by rw [hy0]; exact (Below.refl _ w3).drew
  have kNc := Blk.by hbc kN
  have p1c := cell_by' hbc p1
  have p2c := cell_by' hbc p2
  rw [← hy0]
  clear hy0
  refine wpAnyE_oneL (k := 20) (by kernel_rfl) rfl (fun K hK => ?_)
  go_simp
  have hal : Below y0.heap.size y0 (y0.alloc (.cells #[.int .i64 0, .slice (some ⟨G, 0, none⟩) 3 3, .int .i64 WD, .int .i64 LN] 52)) := (Below.refl _ y0).alloc (Nat.le_refl _) _
  have hsz0 := hbc.size
  replace kNc := Blk.by hal kNc
  replace p1c := cell_by' hal p1c
  replace p2c := cell_by' hal p2c
  replace hbc := below_on hal hbc
  have kD : Blk (y0.alloc (.cells #[.int .i64 0, .slice (some ⟨G, 0, none⟩) 3 3, .int .i64 WD, .int .i64 LN] 52)) y0.heap.size #[.int .i64 0, .slice (some ⟨G, 0, none⟩) 3 3, .int .i64 WD, .int .i64 LN] 52 := Blk.new _ rfl
  refine hK.out _ _ (fun _ => ⟨kNc, p1c, p2c⟩) ?_
  try simp only [Act.put, List.setIfInBounds_toArray, List.set_cons_zero, List.set_cons_succ]
  clear hal hK
  generalize y0.alloc (.cells #[.int .i64 0, .slice (some ⟨G, 0, none⟩) 3 3, .int .i64 WD, .int .i64 LN] 52) = y1 at *
  generalize y0.heap.size = DB at *
  refine wpAnyE_oneL (k := 21) (by kernel_rfl) rfl (fun K hK => ?_)
  have hbA : Below w2.heap.size w2 y1 := below_on hbc hb3
  have hOy := HO2.out.by hbA
  refine step_appT (by rfl) _ _ (by rfl) mid (.slice a3 ll c3) ll (tcells L) (by rfl) (by have := hOy.2.1; rwa [HLL.out] at this) ⟨DB, 0, none⟩ 1 1 [.int .i64 0, (.slice (some ⟨G, 0, none⟩) 3 3), .int .i64 WD, .int .i64 LN] (by rfl) rfl (World.news_of_block (cs := #[.int .i64 0, .slice (some ⟨G, 0, none⟩) 3 3, .int .i64 WD, .int .i64 LN]) kD) (fun u hu => by
    simp at hu
    rcases hu with rfl | rfl | rfl | rfl <;> rfl) (by decide) (by omega) hOy.1 ?_
  intro g cb y2 hrow hgr hg
  have hown := HO2.out.2.1.lt
  have hNy := kNc.lt
  have kN3 : Blk y2 NB #[.int .i64 x.nets, .slice a3 ll c3, .slice a4 x.ps.length c4] 31 := (hgr.block _ kNc.lt (fun e => by have := hown _ e.symm; omega)).trans kNc
  have hGy : G < y1.heap.size := by have := hbc.size; omega
  have p1d : y2.cell? ⟨G, 3, none⟩ = some (.int .i64 WD) := hgr.cell p1c (fun e => by have := hown _ e.symm; dsimp only at this; omega)
  have p2d : y2.cell? ⟨G, 4, none⟩ = some (.int .i64 LN) := hgr.cell p2c (fun e => by have := hown _ e.symm; dsimp only at this; omega)
  have hP1 := HP2.out.by hbA
  have hP3 : BldP y2 lo mid (.slice a4 x.ps.length c4) x.ps := ⟨Nat.le_trans hP1.1 hgr.size, row_same hP1.2.1 (fun q hq => hgr.block q (hP1.2.1.lt q hq).2 (fun e => by have := hP1.2.2 q hq; have := hown _ e.symm; omega)), hP1.2.2⟩
  have hPI : OwnR y1 G (G + 1) (.slice (some ⟨G, 0, none⟩) 3 3) (zs.take 3) := HPI.out.keep (hbc.block _ hGl)
  have hO3 := Out.push (f := G) (pv := (.slice (some ⟨G, 0, none⟩) 3 3)) (x := ⟨0, zs.take 3, WD, LN⟩) HO2.out hbA HLL.out hPI hG1 hGy hgr hg hrow
  have hb4 : Below NB w3 y2 := (below_less hbc (by omega)).trans ⟨hgr.os, hgr.tape, hgr.output, hgr.size, fun k hk => hgr.block k (by omega) (fun e => by have := hown _ e.symm; omega)⟩
  refine hK.out _ _ (fun _ => ⟨kN3, p1d, p2d⟩) ?_
  try simp only [Act.put, List.setIfInBounds_toArray, List.set_cons_zero, List.set_cons_succ]
  clear hK
  have hS2 : (fun w' : World => Blk w' NB #[.int .i64 x.nets, .slice a3 ll c3, .slice a4 x.ps.length c4] 31 ∧ w'.cell? ⟨G, 3, none⟩ = some (.int .i64 WD) ∧ w'.cell? ⟨G, 4, none⟩ = some (.int .i64 LN)) y2 := ⟨kN3, p1d, p2d⟩
  refine wpAnyE_takeL (i := 22) (v := ?_) rfl (by kernel_rfl) (fun _ _ _ h => h) (Or.inl ⟨by rfl, ?_⟩) hS2 ?_
  rotate_left
  · intro w hSw; (try dsimp only at hSw); have qA := hSw.1.cell; have lA := hSw.1.lt; have qB := hSw.2.1; have lB := lt_of_cell qB; have qC := hSw.2.2; have lC := lt_of_cell qC; (try dsimp only at lB lC); clear hSw; go_simp; (try with_reducible rfl)
  try simp only [Act.put, List.setIfInBounds_toArray, List.set_cons_zero, List.set_cons_succ]
  refine wpAnyE_takeL (i := 23) (v := ?_) rfl (by kernel_rfl) (fun _ _ _ h => h) (Or.inl ⟨by rfl, ?_⟩) hS2 ?_
  rotate_left
  · intro w hSw; (try dsimp only at hSw); have qA := hSw.1.cell; have lA := hSw.1.lt; have qB := hSw.2.1; have lB := lt_of_cell qB; have qC := hSw.2.2; have lC := lt_of_cell qC; (try dsimp only at lB lC); clear hSw; go_simp; (try with_reducible rfl)
  try simp only [Act.put, List.setIfInBounds_toArray, List.set_cons_zero, List.set_cons_succ]
  refine wpAnyE_oneL (k := 24) (by kernel_rfl) rfl (fun K hK => ?_)
  have cN := kN3.cell
  have fN := kN3.free
  have lN := kN3.lt
  go_simp
  refine hK.out _ _ (fun h => absurd rfl h) ?_
  refine wpAnyE_done (by kernel_rfl) ?_ _
  clear hS hS2 hK p1c p2c p1 p2 p1d p2d kN kNc kD
  have hbf : Below NB w (y2.setCell ⟨NB, 1, none⟩ (.slice (some ⟨g, 0, none⟩) (ll + 1) cb)) := (hbM.trans hb4).setCell (Nat.le_refl _) _
  have HBX := Lib.hid (BoxN.dev (d := ⟨0, zs.take 3, WD, LN⟩) kN3 hlo hP3 hO3 (by rw [List.map_append, HL1.out]; rfl))
  clear cN fN lN kN3 hb4 hP3 hO3 hP1 hPI hown hgr hg hrow hOy
  generalize y2.setCell ⟨NB, 1, none⟩ (.slice (some ⟨g, 0, none⟩) (ll + 1) cb) = y3 at *
  go_wp2
  refine bodyPost_ret (v := .bool true) (by simp [results, Tryd.results37, go_sem, *]) rfl ⟨by rw [HL.out]; rfl, fun y hy => ?_, hbf⟩
  rw [HL.out] at hy
  obtain rfl := (Option.some.inj hy).symm
  exact HBX.out

set_option maxRecDepth 100000 in
set_option maxHeartbeats 2000000 in
theorem netl_d_1 (x : Nl) (s s0 : ByteArray) (r : List ByteArray) (NB B lo : Nat) (w : World) (hW : wrdS 32 s = s0 :: r) (hs : s.size ≤ 1048576) (hx : BoxN w NB lo x) (hG : Glob B w) (hB : B ≤ NB) (zs : List Int) (WD LN : Int) (hkl : kindL s0.data.toList = some 1) (hn : numsL (lsts r) = some zs) (hz : zs.length = 5) (hwd : zs[3]? = some WD) (hln : zs[4]? = some LN) (hds : x.ds.length ≤ 24) :
    Calls Tryd.prog 37 #[.pointer (some ⟨NB, 0, none⟩), .string s, .bool false] w fun e w' => e = .returned (.bool (lineL false x (lsts (s0 :: r))).isSome) ∧ (∀ y, lineL false x (lsts (s0 :: r)) = some y → BoxN w' NB lo y) ∧ Below NB w w' := by
  have HL : Hid (lineL false x (lsts (s0 :: r)) = some { x with ds := x.ds ++ [⟨1, zs.take 3, WD, LN⟩] }) := Lib.hid (by
    have hk : ¬ s0.data.toList = wPortL := by
      intro e
      rw [e] at hkl
      exact absurd hkl (by decide)
    unfold lsts lineL
    simp only [List.map_cons, hk, Bool.false_eq_true, if_false, hkl]
    rw [show numsL (r.map fun b : ByteArray => b.data.toList) = some zs from hn]
    dsimp only
    rw [show pinN 1 = 3 from rfl, if_pos hz, hwd, hln]
    rfl)
  have hrl2 : r.length = 5 := by have := (numsL_words hn).1; rw [hz] at this; simpa [lsts] using this.symm
  have HCT : Hid (cntB (numsL (lsts r)) 5 = true) := Lib.hid (by
    rw [hn, show cntB (some zs) 5 = ((zs.length : Int) == 5) from rfl, hz]
    rfl)
  have HN := Lib.hid hn
  have HZ := Lib.hid hz
  have HWD := Lib.hid (And.intro hwd hln)
  have HRL := Lib.hid hrl2
  have hnb := hx.lt
  have HSP := Lib.hid (fun w hG => strings_Split_any s B w hs hG)
  have HW := Lib.hid hW
  have HX := Lib.hid hx
  have HG := Lib.hid hG
  have hsw := wrd_size 32 s
  rw [hW] at hsw
  have HWZ : Hid (∀ y ∈ s0 :: r, y.size ≤ 1048576) := Lib.hid (fun y hy => by have := hsw.1 y hy; omega)
  have hrl : r.length ≤ 1048576 := by have := hsw.2.1; simp at this; omega
  have e0 := nets_word s0
  have ep := port_word s0
  have en := word_n s0
  have eq := word_p s0
  have er := word_r s0
  have hks : s0.data.toList = [112] := by
    obtain ⟨h1, -⟩ := kindL_word hkl
    rw [← h1]; rfl
  have hs0 : s0 = ⟨#[112]⟩ := ba_ext (by rw [hks])
  rw [decide_eq_false (by rw [hks]; decide)] at e0
  rw [decide_eq_false (by rw [hks]; decide)] at ep
  rw [decide_eq_false (by rw [hks]; decide)] at en
  rw [decide_eq_true hks] at eq
  rw [decide_eq_false (by rw [hks]; decide)] at er
  have HIX : Hid (∀ (w : World) (g : Nat), Blk w g #[.string ⟨#[110]⟩, .string ⟨#[112]⟩, .string ⟨#[114]⟩] 9 → Calls Tryd.prog 70 #[.slice (some ⟨g, 0, none⟩) 3 3, .string s0] w fun e w' => e = .returned (.int .i64 1) ∧ w' = w) := Lib.hid (fun w g hB => by
    have h := Tryd.slices_Index_string g 0 3 3 [⟨#[110]⟩, ⟨#[112]⟩, ⟨#[114]⟩] s0 w (by decide) (by decide) (fun j hj => by
      rw [hB.cell]
      match j, hj with
      | 0, _ => rfl
      | 1, _ => rfl
      | 2, _ => rfl
      | j + 3, hj => simp at hj; omega)
    have e : Go.Lib.idxOfS ([⟨#[110]⟩, ⟨#[112]⟩, ⟨#[114]⟩].take 3) s0 = 1 := by rw [hs0]; decide
    rw [e] at h
    exact h)
  have HPC : Hid (∀ w : World, Calls Tryd.prog 71 #[.int .i64 1] w fun e w' => e = .returned (.int .i64 3) ∧ w = w') := Lib.hid (fun w => pinCount_any 1 w)
  have HNU := Lib.hid (fun v ss cnt w h hs hl hB hG => netNumbers_any v ss cnt B w h hs hl hB hG)
  clear hkl hks hs0 hn hz hwd hln hrl2
  clear hx hG hW hsw
  go_enter Tryd.func37, Tryd.ntmps37
  go_wp2_with fail
  refine (HSP.out w HG.out).mono ?_
  rintro e w1 ⟨rfl, hst, hb1⟩
  rw [HW.out] at hst ⊢
  rw [show (s0 :: r).length = r.length + 1 from rfl] at hst ⊢
  have q0 : w1.cell? ⟨w.heap.size, 0, none⟩ = some (.string s0) := str_cell hst 0 s0 rfl
  have lg := lt_of_cell q0
  dsimp only at lg
  have hbN : Below NB w w1 := ⟨hb1.os, hb1.tape, hb1.output, hb1.size, fun k hk => hb1.block k (by omega)⟩
  rw [HRL.out] at hst ⊢
  have HWT : Hid (StrSl w1 (.slice (some ⟨w.heap.size, 1, none⟩) 5 5) r) := Lib.hid hst.tail.2.2
  have HK0 := HRL
  clear hst
  go_wp2_with fail
  refine (HIX.out (w1.alloc (.cells #[.string ⟨#[110]⟩, .string ⟨#[112]⟩, .string ⟨#[114]⟩] 9)) w1.heap.size (Blk.new _ rfl)).mono ?_
  rintro e w2 ⟨rfl, rfl⟩
  have hal : Below w1.heap.size w1 (w1.alloc (.cells #[.string ⟨#[110]⟩, .string ⟨#[112]⟩, .string ⟨#[114]⟩] 9)) := (Below.refl _ w1).alloc (Nat.le_refl _) _
  have HWT2 := Lib.hid (HWT.out.by hal)
  have hb2 : Below w.heap.size w (w1.alloc (.cells #[.string ⟨#[110]⟩, .string ⟨#[112]⟩, .string ⟨#[114]⟩] 9)) := below_on hal hb1
  have q1 := cell_by' hal q0
  have lg1 := lt_of_cell q1
  dsimp only at lg1
  clear hal HWT q0 lg hbN hb1
  generalize w1.alloc (.cells #[.string ⟨#[110]⟩, .string ⟨#[112]⟩, .string ⟨#[114]⟩] 9) = w2 at *
  go_wp2_with fail
  refine (HPC.out w2).mono ?_
  rintro e w3 ⟨rfl, rfl⟩
  go_wp2_with fail
  refine (HNU.out _ r 5 w2 HWT2.out (fun y hy => HWZ.out y (List.mem_cons_of_mem _ hy)) (by have := HK0.out; omega) (by have := hb2.size; omega) (HG.out.by hb2 (by omega))).mono ?_
  rintro e w3 ⟨v2, rfl, hzs, hb3⟩
  have hbM0 : Below w.heap.size w w3 := below_on hb3 hb2
  have hbM : Below NB w w3 := ⟨hbM0.os, hbM0.tape, hbM0.output, hbM0.size, fun k hk => hbM0.block k (by omega)⟩
  have q2 := cell_by' hb3 q1
  clear q1 lg1 HWT2
  rw [HCT.out]
  have hB2 := hzs _ HN.out
  rcases hB2.own with ⟨_, _, _, h0⟩ | ⟨G, c5, cs, rfl, hG1, hG2, hl1, hl2, hBk, hcell⟩
  · have := HZ.out; rw [h0] at this; simp at this
  rw [HZ.out] at hl1 ⊢
  have p1 : w3.cell? ⟨G, 3, none⟩ = some (.int .i64 WD) := (hBk.cell _).trans (hcell _ _ HWD.out.1)
  have p2 : w3.cell? ⟨G, 4, none⟩ = some (.int .i64 LN) := (hBk.cell _).trans (hcell _ _ HWD.out.2)
  have HPI : Hid (OwnR w3 G (G + 1) (.slice (some ⟨G, 0, none⟩) 3 3) (zs.take 3)) := Lib.hid (.inr ⟨G, 3, cs, by rw [List.length_take, HZ.out]; rfl, Nat.le_refl _, Nat.lt_succ_self _, by rw [List.length_take, HZ.out]; decide, by decide, hBk, fun i y hy => hcell i y (by
    have := (List.getElem?_eq_some_iff.1 hy).1
    rw [List.length_take] at this
    rw [List.getElem?_take_of_lt (by omega)] at hy
    exact hy)⟩)
  obtain ⟨mid, dv, pv, L, kN1, hlo, hP1, hO1, hL1, hdn⟩ := HX.out
  have hmid : mid ≤ w.heap.size := hO1.1
  obtain ⟨ll, hll⟩ : ∃ q, L.length = q := ⟨_, rfl⟩
  have hllb : ll ≤ 24 := by rw [← hll, ← List.length_map (f := fun t : Tr => t.1), hL1]; exact hds
  obtain ⟨a3, c3, rfl⟩ := hO1.sized
  obtain ⟨a4, c4, rfl⟩ := hP1.sized
  rw [hll] at hO1 kN1
  have HLL := Lib.hid hll
  have HL1 := Lib.hid hL1
  have HO2 := Lib.hid (hO1.by hb2)
  have HP2 := Lib.hid (hP1.by hb2)
  have kN := Blk.by hbM0 kN1
  have hw2s := hb2.size
  have hw3s := hb3.size
  have hGl := hBk.lt
  have hc53 : (3 : Int) ≤ (c5 : Int) := by omega
  have hc54 : 3 ≤ c5 := by omega
  have hw4 : IntKind.i64.wrap 4 = 4 := rfl
  have lz := lt_of_cell p1
  dsimp only at lz
  clear hb2 kN1 hP1 hO1 hL1 hll hdn hB2 hBk hcell hl1 hzs hbM0
  go_upto_region 24 with fail
  have hS : (fun w' : World => Blk w' NB #[.int .i64 x.nets, .slice a3 ll c3, .slice a4 x.ps.length c4] 31 ∧ w'.cell? ⟨G, 3, none⟩ = some (.int .i64 WD) ∧ w'.cell? ⟨G, 4, none⟩ = some (.int .i64 LN)) { w3 with drawn := w3.drawn + 1 } := ⟨kN.drew, p1, p2⟩
  refine wp_region_any (by kernel_rfl) (wpAny_of_E (S := (fun w' : World => Blk w' NB #[.int .i64 x.nets, .slice a3 ll c3, .slice a4 x.ps.length c4] 31 ∧ w'.cell? ⟨G, 3, none⟩ = some (.int .i64 WD) ∧ w'.cell? ⟨G, 4, none⟩ = some (.int .i64 LN))) (l := 24) _ _ _ _ ?_)
  change wpAnyE _ _ _ _ _ _ _ _ _ w3.drew
  refine wpAnyE_takeL (i := 0) (v := ?_) rfl (by kernel_rfl) (fun _ _ _ h => h) (Or.inl ⟨by rfl, ?_⟩) hS ?_
  rotate_left
  · intro w hSw; (try dsimp only at hSw); have qA := hSw.1.cell; have lA := hSw.1.lt; have qB := hSw.2.1; have lB := lt_of_cell qB; have qC := hSw.2.2; have lC := lt_of_cell qC; (try dsimp only at lB lC); clear hSw; go_simp; (try with_reducible rfl)
  try simp only [Act.put, List.setIfInBounds_toArray, List.set_cons_zero, List.set_cons_succ]
  refine wpAnyE_takeL (i := 1) (v := ?_) rfl (by kernel_rfl) (fun _ _ _ h => h) (Or.inl ⟨by rfl, ?_⟩) hS ?_
  rotate_left
  · intro w hSw; (try dsimp only at hSw); have qA := hSw.1.cell; have lA := hSw.1.lt; have qB := hSw.2.1; have lB := lt_of_cell qB; have qC := hSw.2.2; have lC := lt_of_cell qC; (try dsimp only at lB lC); clear hSw; go_simp; (try with_reducible rfl)
  try simp only [Act.put, List.setIfInBounds_toArray, List.set_cons_zero, List.set_cons_succ]
  refine wpAnyE_takeL (i := 2) (v := ?_) rfl (by kernel_rfl) (fun _ _ _ h => h) (Or.inl ⟨by rfl, ?_⟩) hS ?_
  rotate_left
  · intro w hSw; (try dsimp only at hSw); have qA := hSw.1.cell; have lA := hSw.1.lt; have qB := hSw.2.1; have lB := lt_of_cell qB; have qC := hSw.2.2; have lC := lt_of_cell qC; (try dsimp only at lB lC); clear hSw; go_simp; (try with_reducible rfl)
  try simp only [Act.put, List.setIfInBounds_toArray, List.set_cons_zero, List.set_cons_succ]
  refine wpAnyE_takeL (i := 3) (v := ?_) rfl (by kernel_rfl) (fun _ _ _ h => h) (Or.inl ⟨by rfl, ?_⟩) hS ?_
  rotate_left
  · intro w hSw; (try dsimp only at hSw); have qA := hSw.1.cell; have lA := hSw.1.lt; have qB := hSw.2.1; have lB := lt_of_cell qB; have qC := hSw.2.2; have lC := lt_of_cell qC; (try dsimp only at lB lC); clear hSw; go_simp; (try with_reducible rfl)
  try simp only [Act.put, List.setIfInBounds_toArray, List.set_cons_zero, List.set_cons_succ]
  refine wpAnyE_takeL (i := 4) (v := ?_) rfl (by kernel_rfl) (fun _ _ _ h => h) (Or.inl ⟨by rfl, ?_⟩) hS ?_
  rotate_left
  · intro w hSw; (try dsimp only at hSw); have qA := hSw.1.cell; have lA := hSw.1.lt; have qB := hSw.2.1; have lB := lt_of_cell qB; have qC := hSw.2.2; have lC := lt_of_cell qC; (try dsimp only at lB lC); clear hSw; go_simp; (try with_reducible rfl)
  try simp only [Act.put, List.setIfInBounds_toArray, List.set_cons_zero, List.set_cons_succ]
  refine wpAnyE_takeL (i := 5) (v := ?_) rfl (by kernel_rfl) (fun _ _ _ h => h) (Or.inl ⟨by rfl, ?_⟩) hS ?_
  rotate_left
  · intro w hSw; (try dsimp only at hSw); have qA := hSw.1.cell; have lA := hSw.1.lt; have qB := hSw.2.1; have lB := lt_of_cell qB; have qC := hSw.2.2; have lC := lt_of_cell qC; (try dsimp only at lB lC); clear hSw; go_simp; (try with_reducible rfl)
  try simp only [Act.put, List.setIfInBounds_toArray, List.set_cons_zero, List.set_cons_succ]
  refine wpAnyE_takeL (i := 6) (v := ?_) rfl (by kernel_rfl) (fun _ _ _ h => h) (Or.inl ⟨by rfl, ?_⟩) hS ?_
  rotate_left
  · intro w hSw; (try dsimp only at hSw); have qA := hSw.1.cell; have lA := hSw.1.lt; have qB := hSw.2.1; have lB := lt_of_cell qB; have qC := hSw.2.2; have lC := lt_of_cell qC; (try dsimp only at lB lC); clear hSw; go_simp; (try with_reducible rfl)
  try simp only [Act.put, List.setIfInBounds_toArray, List.set_cons_zero, List.set_cons_succ]
  refine wpAnyE_takeL (i := 7) (v := ?_) rfl (by kernel_rfl) (fun _ _ _ h => h) (Or.inl ⟨by rfl, ?_⟩) hS ?_
  rotate_left
  · intro w hSw; (try dsimp only at hSw); have qA := hSw.1.cell; have lA := hSw.1.lt; have qB := hSw.2.1; have lB := lt_of_cell qB; have qC := hSw.2.2; have lC := lt_of_cell qC; (try dsimp only at lB lC); clear hSw; go_simp; (try with_reducible rfl)
  try simp only [Act.put, List.setIfInBounds_toArray, List.set_cons_zero, List.set_cons_succ]
  refine wpAnyE_takeL (i := 8) (v := ?_) rfl (by kernel_rfl) (fun _ _ _ h => h) (Or.inl ⟨by rfl, ?_⟩) hS ?_
  rotate_left
  · intro w hSw; (try dsimp only at hSw); have qA := hSw.1.cell; have lA := hSw.1.lt; have qB := hSw.2.1; have lB := lt_of_cell qB; have qC := hSw.2.2; have lC := lt_of_cell qC; (try dsimp only at lB lC); clear hSw; go_simp; (try with_reducible rfl)
  try simp only [Act.put, List.setIfInBounds_toArray, List.set_cons_zero, List.set_cons_succ]
  refine wpAnyE_takeL (i := 9) (v := ?_) rfl (by kernel_rfl) (fun _ _ _ h => h) (Or.inl ⟨by rfl, ?_⟩) hS ?_
  rotate_left
  · intro w hSw; (try dsimp only at hSw); have qA := hSw.1.cell; have lA := hSw.1.lt; have qB := hSw.2.1; have lB := lt_of_cell qB; have qC := hSw.2.2; have lC := lt_of_cell qC; (try dsimp only at lB lC); clear hSw; go_simp; (try with_reducible rfl)
  try simp only [Act.put, List.setIfInBounds_toArray, List.set_cons_zero, List.set_cons_succ]
  refine wpAnyE_takeL (i := 10) (v := ?_) rfl (by kernel_rfl) (fun _ _ _ h => h) (Or.inl ⟨by rfl, ?_⟩) hS ?_
  rotate_left
  · intro w hSw; (try dsimp only at hSw); have qA := hSw.1.cell; have lA := hSw.1.lt; have qB := hSw.2.1; have lB := lt_of_cell qB; have qC := hSw.2.2; have lC := lt_of_cell qC; (try dsimp only at lB lC); clear hSw; go_simp; (try with_reducible rfl)
  try simp only [Act.put, List.setIfInBounds_toArray, List.set_cons_zero, List.set_cons_succ]
  refine wpAnyE_takeL (i := 11) (v := ?_) rfl (by kernel_rfl) (fun _ _ _ h => h) (Or.inl ⟨by rfl, ?_⟩) hS ?_
  rotate_left
  · intro w hSw; (try dsimp only at hSw); have qA := hSw.1.cell; have lA := hSw.1.lt; have qB := hSw.2.1; have lB := lt_of_cell qB; have qC := hSw.2.2; have lC := lt_of_cell qC; (try dsimp only at lB lC); clear hSw; go_simp; (try with_reducible rfl)
  try simp only [Act.put, List.setIfInBounds_toArray, List.set_cons_zero, List.set_cons_succ]
  refine wpAnyE_takeL (i := 12) (v := ?_) rfl (by kernel_rfl) (fun _ _ _ h => h) (Or.inl ⟨by rfl, ?_⟩) hS ?_
  rotate_left
  · intro w hSw; (try dsimp only at hSw); have qA := hSw.1.cell; have lA := hSw.1.lt; have qB := hSw.2.1; have lB := lt_of_cell qB; have qC := hSw.2.2; have lC := lt_of_cell qC; (try dsimp only at lB lC); clear hSw; go_simp; (try with_reducible rfl)
  try simp only [Act.put, List.setIfInBounds_toArray, List.set_cons_zero, List.set_cons_succ]
  refine wpAnyE_takeL (i := 13) (v := ?_) rfl (by kernel_rfl) (fun _ _ _ h => h) (Or.inl ⟨by rfl, ?_⟩) hS ?_
  rotate_left
  · intro w hSw; (try dsimp only at hSw); have qA := hSw.1.cell; have lA := hSw.1.lt; have qB := hSw.2.1; have lB := lt_of_cell qB; have qC := hSw.2.2; have lC := lt_of_cell qC; (try dsimp only at lB lC); clear hSw; go_simp; (try with_reducible rfl)
  try simp only [Act.put, List.setIfInBounds_toArray, List.set_cons_zero, List.set_cons_succ]
  refine wpAnyE_takeL (i := 14) (v := ?_) rfl (by kernel_rfl) (fun _ _ _ h => h) (Or.inl ⟨by rfl, ?_⟩) hS ?_
  rotate_left
  · intro w hSw; (try dsimp only at hSw); have qA := hSw.1.cell; have lA := hSw.1.lt; have qB := hSw.2.1; have lB := lt_of_cell qB; have qC := hSw.2.2; have lC := lt_of_cell qC; (try dsimp only at lB lC); clear hSw; go_simp; (try with_reducible rfl)
  try simp only [Act.put, List.setIfInBounds_toArray, List.set_cons_zero, List.set_cons_succ]
  refine wpAnyE_takeL (i := 15) (v := ?_) rfl (by kernel_rfl) (fun _ _ _ h => h) (Or.inl ⟨by rfl, ?_⟩) hS ?_
  rotate_left
  · intro w hSw; (try dsimp only at hSw); have qA := hSw.1.cell; have lA := hSw.1.lt; have qB := hSw.2.1; have lB := lt_of_cell qB; have qC := hSw.2.2; have lC := lt_of_cell qC; (try dsimp only at lB lC); clear hSw; go_simp; (try with_reducible rfl)
  try simp only [Act.put, List.setIfInBounds_toArray, List.set_cons_zero, List.set_cons_succ]
  refine wpAnyE_takeL (i := 16) (v := ?_) rfl (by kernel_rfl) (fun _ _ _ h => h) (Or.inl ⟨by rfl, ?_⟩) hS ?_
  rotate_left
  · intro w hSw; (try dsimp only at hSw); have qA := hSw.1.cell; have lA := hSw.1.lt; have qB := hSw.2.1; have lB := lt_of_cell qB; have qC := hSw.2.2; have lC := lt_of_cell qC; (try dsimp only at lB lC); clear hSw; go_simp; (try with_reducible rfl)
  try simp only [Act.put, List.setIfInBounds_toArray, List.set_cons_zero, List.set_cons_succ]
  refine wpAnyE_takeL (i := 17) (v := ?_) rfl (by kernel_rfl) (fun _ _ _ h => h) (Or.inl ⟨by rfl, ?_⟩) hS ?_
  rotate_left
  · intro w hSw; (try dsimp only at hSw); have qA := hSw.1.cell; have lA := hSw.1.lt; have qB := hSw.2.1; have lB := lt_of_cell qB; have qC := hSw.2.2; have lC := lt_of_cell qC; (try dsimp only at lB lC); clear hSw; go_simp; (try with_reducible rfl)
  try simp only [Act.put, List.setIfInBounds_toArray, List.set_cons_zero, List.set_cons_succ]
  refine wpAnyE_takeL (i := 18) (v := ?_) rfl (by kernel_rfl) (fun _ _ _ h => h) (Or.inl ⟨by rfl, ?_⟩) hS ?_
  rotate_left
  · intro w hSw; (try dsimp only at hSw); have qA := hSw.1.cell; have lA := hSw.1.lt; have qB := hSw.2.1; have lB := lt_of_cell qB; have qC := hSw.2.2; have lC := lt_of_cell qC; (try dsimp only at lB lC); clear hSw; go_simp; (try with_reducible rfl)
  try simp only [Act.put, List.setIfInBounds_toArray, List.set_cons_zero, List.set_cons_succ]
  refine wpAnyE_takeL (i := 19) (v := ?_) rfl (by kernel_rfl) (fun _ _ _ h => h) (Or.inl ⟨by rfl, ?_⟩) hS ?_
  rotate_left
  · intro w hSw; (try dsimp only at hSw); have qA := hSw.1.cell; have lA := hSw.1.lt; have qB := hSw.2.1; have lB := lt_of_cell qB; have qC := hSw.2.2; have lC := lt_of_cell qC; (try dsimp only at lB lC); clear hSw; go_simp; (try with_reducible rfl)
  try simp only [Act.put, List.setIfInBounds_toArray, List.set_cons_zero, List.set_cons_succ]
  obtain ⟨y0, hy0⟩ : ∃ q, q = w3.drew := ⟨_, rfl⟩
  have hbc : Below w3.heap.size w3 y0 := by rw [hy0]; exact (Below.refl _ w3).drew
  have kNc := Blk.by hbc kN
  have p1c := cell_by' hbc p1
  have p2c := cell_by' hbc p2
  rw [← hy0]
  clear hy0
  refine wpAnyE_oneL (k := 20) (by kernel_rfl) rfl (fun K hK => ?_)
  go_simp
  have hal : Below y0.heap.size y0 (y0.alloc (.cells #[.int .i64 1, .slice (some ⟨G, 0, none⟩) 3 3, .int .i64 WD, .int .i64 LN] 52)) := (Below.refl _ y0).alloc (Nat.le_refl _) _
  have hsz0 := hbc.size
  replace kNc := Blk.by hal kNc
  replace p1c := cell_by' hal p1c
  replace p2c := cell_by' hal p2c
  replace hbc := below_on hal hbc
  have kD : Blk (y0.alloc (.cells #[.int .i64 1, .slice (some ⟨G, 0, none⟩) 3 3, .int .i64 WD, .int .i64 LN] 52)) y0.heap.size #[.int .i64 1, .slice (some ⟨G, 0, none⟩) 3 3, .int .i64 WD, .int .i64 LN] 52 := Blk.new _ rfl
  refine hK.out _ _ (fun _ => ⟨kNc, p1c, p2c⟩) ?_
  try simp only [Act.put, List.setIfInBounds_toArray, List.set_cons_zero, List.set_cons_succ]
  clear hal hK
  generalize y0.alloc (.cells #[.int .i64 1, .slice (some ⟨G, 0, none⟩) 3 3, .int .i64 WD, .int .i64 LN] 52) = y1 at *
  generalize y0.heap.size = DB at *
  refine wpAnyE_oneL (k := 21) (by kernel_rfl) rfl (fun K hK => ?_)
  have hbA : Below w2.heap.size w2 y1 := below_on hbc hb3
  have hOy := HO2.out.by hbA
  refine step_appT (by rfl) _ _ (by rfl) mid (.slice a3 ll c3) ll (tcells L) (by rfl) (by have := hOy.2.1; rwa [HLL.out] at this) ⟨DB, 0, none⟩ 1 1 [.int .i64 1, (.slice (some ⟨G, 0, none⟩) 3 3), .int .i64 WD, .int .i64 LN] (by rfl) rfl (World.news_of_block (cs := #[.int .i64 1, .slice (some ⟨G, 0, none⟩) 3 3, .int .i64 WD, .int .i64 LN]) kD) (fun u hu => by
    simp at hu
    rcases hu with rfl | rfl | rfl | rfl <;> rfl) (by decide) (by omega) hOy.1 ?_
  intro g cb y2 hrow hgr hg
  have hown := HO2.out.2.1.lt
  have hNy := kNc.lt
  have kN3 : Blk y2 NB #[.int .i64 x.nets, .slice a3 ll c3, .slice a4 x.ps.length c4] 31 := (hgr.block _ kNc.lt (fun e => by have := hown _ e.symm; omega)).trans kNc
  have hGy : G < y1.heap.size := by have := hbc.size; omega
  have p1d : y2.cell? ⟨G, 3, none⟩ = some (.int .i64 WD) := hgr.cell p1c (fun e => by have := hown _ e.symm; dsimp only at this; omega)
  have p2d : y2.cell? ⟨G, 4, none⟩ = some (.int .i64 LN) := hgr.cell p2c (fun e => by have := hown _ e.symm; dsimp only at this; omega)
  have hP1 := HP2.out.by hbA
  have hP3 : BldP y2 lo mid (.slice a4 x.ps.length c4) x.ps := ⟨Nat.le_trans hP1.1 hgr.size, row_same hP1.2.1 (fun q hq => hgr.block q (hP1.2.1.lt q hq).2 (fun e => by have := hP1.2.2 q hq; have := hown _ e.symm; omega)), hP1.2.2⟩
  have hPI : OwnR y1 G (G + 1) (.slice (some ⟨G, 0, none⟩) 3 3) (zs.take 3) := HPI.out.keep (hbc.block _ hGl)
  have hO3 := Out.push (f := G) (pv := (.slice (some ⟨G, 0, none⟩) 3 3)) (x := ⟨1, zs.take 3, WD, LN⟩) HO2.out hbA HLL.out hPI hG1 hGy hgr hg hrow
  have hb4 : Below NB w3 y2 := (below_less hbc (by omega)).trans ⟨hgr.os, hgr.tape, hgr.output, hgr.size, fun k hk => hgr.block k (by omega) (fun e => by have := hown _ e.symm; omega)⟩
  refine hK.out _ _ (fun _ => ⟨kN3, p1d, p2d⟩) ?_
  try simp only [Act.put, List.setIfInBounds_toArray, List.set_cons_zero, List.set_cons_succ]
  clear hK
  have hS2 : (fun w' : World => Blk w' NB #[.int .i64 x.nets, .slice a3 ll c3, .slice a4 x.ps.length c4] 31 ∧ w'.cell? ⟨G, 3, none⟩ = some (.int .i64 WD) ∧ w'.cell? ⟨G, 4, none⟩ = some (.int .i64 LN)) y2 := ⟨kN3, p1d, p2d⟩
  refine wpAnyE_takeL (i := 22) (v := ?_) rfl (by kernel_rfl) (fun _ _ _ h => h) (Or.inl ⟨by rfl, ?_⟩) hS2 ?_
  rotate_left
  · intro w hSw; (try dsimp only at hSw); have qA := hSw.1.cell; have lA := hSw.1.lt; have qB := hSw.2.1; have lB := lt_of_cell qB; have qC := hSw.2.2; have lC := lt_of_cell qC; (try dsimp only at lB lC); clear hSw; go_simp; (try with_reducible rfl)
  try simp only [Act.put, List.setIfInBounds_toArray, List.set_cons_zero, List.set_cons_succ]
  refine wpAnyE_takeL (i := 23) (v := ?_) rfl (by kernel_rfl) (fun _ _ _ h => h) (Or.inl ⟨by rfl, ?_⟩) hS2 ?_
  rotate_left
  · intro w hSw; (try dsimp only at hSw); have qA := hSw.1.cell; have lA := hSw.1.lt; have qB := hSw.2.1; have lB := lt_of_cell qB; have qC := hSw.2.2; have lC := lt_of_cell qC; (try dsimp only at lB lC); clear hSw; go_simp; (try with_reducible rfl)
  try simp only [Act.put, List.setIfInBounds_toArray, List.set_cons_zero, List.set_cons_succ]
  refine wpAnyE_oneL (k := 24) (by kernel_rfl) rfl (fun K hK => ?_)
  have cN := kN3.cell
  have fN := kN3.free
  have lN := kN3.lt
  go_simp
  refine hK.out _ _ (fun h => absurd rfl h) ?_
  refine wpAnyE_done (by kernel_rfl) ?_ _
  clear hS hS2 hK p1c p2c p1 p2 p1d p2d kN kNc kD
  have hbf : Below NB w (y2.setCell ⟨NB, 1, none⟩ (.slice (some ⟨g, 0, none⟩) (ll + 1) cb)) := (hbM.trans hb4).setCell (Nat.le_refl _) _
  have HBX := Lib.hid (BoxN.dev (d := ⟨1, zs.take 3, WD, LN⟩) kN3 hlo hP3 hO3 (by rw [List.map_append, HL1.out]; rfl))
  clear cN fN lN kN3 hb4 hP3 hO3 hP1 hPI hown hgr hg hrow hOy
  generalize y2.setCell ⟨NB, 1, none⟩ (.slice (some ⟨g, 0, none⟩) (ll + 1) cb) = y3 at *
  go_wp2
  refine bodyPost_ret (v := .bool true) (by simp [results, Tryd.results37, go_sem, *]) rfl ⟨by rw [HL.out]; rfl, fun y hy => ?_, hbf⟩
  rw [HL.out] at hy
  obtain rfl := (Option.some.inj hy).symm
  exact HBX.out

set_option maxRecDepth 100000 in
set_option maxHeartbeats 2000000 in
theorem netl_d_2 (x : Nl) (s s0 : ByteArray) (r : List ByteArray) (NB B lo : Nat) (w : World) (hW : wrdS 32 s = s0 :: r) (hs : s.size ≤ 1048576) (hx : BoxN w NB lo x) (hG : Glob B w) (hB : B ≤ NB) (zs : List Int) (WD LN : Int) (hkl : kindL s0.data.toList = some 2) (hn : numsL (lsts r) = some zs) (hz : zs.length = 4) (hwd : zs[2]? = some WD) (hln : zs[3]? = some LN) (hds : x.ds.length ≤ 24) :
    Calls Tryd.prog 37 #[.pointer (some ⟨NB, 0, none⟩), .string s, .bool false] w fun e w' => e = .returned (.bool (lineL false x (lsts (s0 :: r))).isSome) ∧ (∀ y, lineL false x (lsts (s0 :: r)) = some y → BoxN w' NB lo y) ∧ Below NB w w' := by
  have HL : Hid (lineL false x (lsts (s0 :: r)) = some { x with ds := x.ds ++ [⟨2, zs.take 2, WD, LN⟩] }) := Lib.hid (by
    have hk : ¬ s0.data.toList = wPortL := by
      intro e
      rw [e] at hkl
      exact absurd hkl (by decide)
    unfold lsts lineL
    simp only [List.map_cons, hk, Bool.false_eq_true, if_false, hkl]
    rw [show numsL (r.map fun b : ByteArray => b.data.toList) = some zs from hn]
    dsimp only
    rw [show pinN 2 = 2 from rfl, if_pos hz, hwd, hln]
    rfl)
  have hrl2 : r.length = 4 := by have := (numsL_words hn).1; rw [hz] at this; simpa [lsts] using this.symm
  have HCT : Hid (cntB (numsL (lsts r)) 4 = true) := Lib.hid (by
    rw [hn, show cntB (some zs) 4 = ((zs.length : Int) == 4) from rfl, hz]
    rfl)
  have HN := Lib.hid hn
  have HZ := Lib.hid hz
  have HWD := Lib.hid (And.intro hwd hln)
  have HRL := Lib.hid hrl2
  have hnb := hx.lt
  have HSP := Lib.hid (fun w hG => strings_Split_any s B w hs hG)
  have HW := Lib.hid hW
  have HX := Lib.hid hx
  have HG := Lib.hid hG
  have hsw := wrd_size 32 s
  rw [hW] at hsw
  have HWZ : Hid (∀ y ∈ s0 :: r, y.size ≤ 1048576) := Lib.hid (fun y hy => by have := hsw.1 y hy; omega)
  have hrl : r.length ≤ 1048576 := by have := hsw.2.1; simp at this; omega
  have e0 := nets_word s0
  have ep := port_word s0
  have en := word_n s0
  have eq := word_p s0
  have er := word_r s0
  have hks : s0.data.toList = [114] := by
    obtain ⟨h1, -⟩ := kindL_word hkl
    rw [← h1]; rfl
  have hs0 : s0 = ⟨#[114]⟩ := ba_ext (by rw [hks])
  rw [decide_eq_false (by rw [hks]; decide)] at e0
  rw [decide_eq_false (by rw [hks]; decide)] at ep
  rw [decide_eq_false (by rw [hks]; decide)] at en
  rw [decide_eq_false (by rw [hks]; decide)] at eq
  rw [decide_eq_true hks] at er
  have HIX : Hid (∀ (w : World) (g : Nat), Blk w g #[.string ⟨#[110]⟩, .string ⟨#[112]⟩, .string ⟨#[114]⟩] 9 → Calls Tryd.prog 70 #[.slice (some ⟨g, 0, none⟩) 3 3, .string s0] w fun e w' => e = .returned (.int .i64 2) ∧ w' = w) := Lib.hid (fun w g hB => by
    have h := Tryd.slices_Index_string g 0 3 3 [⟨#[110]⟩, ⟨#[112]⟩, ⟨#[114]⟩] s0 w (by decide) (by decide) (fun j hj => by
      rw [hB.cell]
      match j, hj with
      | 0, _ => rfl
      | 1, _ => rfl
      | 2, _ => rfl
      | j + 3, hj => simp at hj; omega)
    have e : Go.Lib.idxOfS ([⟨#[110]⟩, ⟨#[112]⟩, ⟨#[114]⟩].take 3) s0 = 2 := by rw [hs0]; decide
    rw [e] at h
    exact h)
  have HPC : Hid (∀ w : World, Calls Tryd.prog 71 #[.int .i64 2] w fun e w' => e = .returned (.int .i64 2) ∧ w = w') := Lib.hid (fun w => pinCount_any 2 w)
  have HNU := Lib.hid (fun v ss cnt w h hs hl hB hG => netNumbers_any v ss cnt B w h hs hl hB hG)
  clear hkl hks hs0 hn hz hwd hln hrl2
  clear hx hG hW hsw
  go_enter Tryd.func37, Tryd.ntmps37
  go_wp2_with fail
  refine (HSP.out w HG.out).mono ?_
  rintro e w1 ⟨rfl, hst, hb1⟩
  rw [HW.out] at hst ⊢
  rw [show (s0 :: r).length = r.length + 1 from rfl] at hst ⊢
  have q0 : w1.cell? ⟨w.heap.size, 0, none⟩ = some (.string s0) := str_cell hst 0 s0 rfl
  have lg := lt_of_cell q0
  dsimp only at lg
  have hbN : Below NB w w1 := ⟨hb1.os, hb1.tape, hb1.output, hb1.size, fun k hk => hb1.block k (by omega)⟩
  rw [HRL.out] at hst ⊢
  have HWT : Hid (StrSl w1 (.slice (some ⟨w.heap.size, 1, none⟩) 4 4) r) := Lib.hid hst.tail.2.2
  have HK0 := HRL
  clear hst
  go_wp2_with fail
  refine (HIX.out (w1.alloc (.cells #[.string ⟨#[110]⟩, .string ⟨#[112]⟩, .string ⟨#[114]⟩] 9)) w1.heap.size (Blk.new _ rfl)).mono ?_
  rintro e w2 ⟨rfl, rfl⟩
  have hal : Below w1.heap.size w1 (w1.alloc (.cells #[.string ⟨#[110]⟩, .string ⟨#[112]⟩, .string ⟨#[114]⟩] 9)) := (Below.refl _ w1).alloc (Nat.le_refl _) _
  have HWT2 := Lib.hid (HWT.out.by hal)
  have hb2 : Below w.heap.size w (w1.alloc (.cells #[.string ⟨#[110]⟩, .string ⟨#[112]⟩, .string ⟨#[114]⟩] 9)) := below_on hal hb1
  have q1 := cell_by' hal q0
  have lg1 := lt_of_cell q1
  dsimp only at lg1
  clear hal HWT q0 lg hbN hb1
  generalize w1.alloc (.cells #[.string ⟨#[110]⟩, .string ⟨#[112]⟩, .string ⟨#[114]⟩] 9) = w2 at *
  go_wp2_with fail
  refine (HPC.out w2).mono ?_
  rintro e w3 ⟨rfl, rfl⟩
  go_wp2_with fail
  refine (HNU.out _ r 4 w2 HWT2.out (fun y hy => HWZ.out y (List.mem_cons_of_mem _ hy)) (by have := HK0.out; omega) (by have := hb2.size; omega) (HG.out.by hb2 (by omega))).mono ?_
  rintro e w3 ⟨v2, rfl, hzs, hb3⟩
  have hbM0 : Below w.heap.size w w3 := below_on hb3 hb2
  have hbM : Below NB w w3 := ⟨hbM0.os, hbM0.tape, hbM0.output, hbM0.size, fun k hk => hbM0.block k (by omega)⟩
  have q2 := cell_by' hb3 q1
  clear q1 lg1 HWT2
  rw [HCT.out]
  have hB2 := hzs _ HN.out
  rcases hB2.own with ⟨_, _, _, h0⟩ | ⟨G, c5, cs, rfl, hG1, hG2, hl1, hl2, hBk, hcell⟩
  · have := HZ.out; rw [h0] at this; simp at this
  rw [HZ.out] at hl1 ⊢
  have p1 : w3.cell? ⟨G, 2, none⟩ = some (.int .i64 WD) := (hBk.cell _).trans (hcell _ _ HWD.out.1)
  have p2 : w3.cell? ⟨G, 3, none⟩ = some (.int .i64 LN) := (hBk.cell _).trans (hcell _ _ HWD.out.2)
  have HPI : Hid (OwnR w3 G (G + 1) (.slice (some ⟨G, 0, none⟩) 2 2) (zs.take 2)) := Lib.hid (.inr ⟨G, 2, cs, by rw [List.length_take, HZ.out]; rfl, Nat.le_refl _, Nat.lt_succ_self _, by rw [List.length_take, HZ.out]; decide, by decide, hBk, fun i y hy => hcell i y (by
    have := (List.getElem?_eq_some_iff.1 hy).1
    rw [List.length_take] at this
    rw [List.getElem?_take_of_lt (by omega)] at hy
    exact hy)⟩)
  obtain ⟨mid, dv, pv, L, kN1, hlo, hP1, hO1, hL1, hdn⟩ := HX.out
  have hmid : mid ≤ w.heap.size := hO1.1
  obtain ⟨ll, hll⟩ : ∃ q, L.length = q := ⟨_, rfl⟩
  have hllb : ll ≤ 24 := by rw [← hll, ← List.length_map (f := fun t : Tr => t.1), hL1]; exact hds
  obtain ⟨a3, c3, rfl⟩ := hO1.sized
  obtain ⟨a4, c4, rfl⟩ := hP1.sized
  rw [hll] at hO1 kN1
  have HLL := Lib.hid hll
  have HL1 := Lib.hid hL1
  have HO2 := Lib.hid (hO1.by hb2)
  have HP2 := Lib.hid (hP1.by hb2)
  have kN := Blk.by hbM0 kN1
  have hw2s := hb2.size
  have hw3s := hb3.size
  have hGl := hBk.lt
  have hc53 : (2 : Int) ≤ (c5 : Int) := by omega
  have hc54 : 2 ≤ c5 := by omega
  have hw4 : IntKind.i64.wrap 3 = 3 := rfl
  have lz := lt_of_cell p1
  dsimp only at lz
  clear hb2 kN1 hP1 hO1 hL1 hll hdn hB2 hBk hcell hl1 hzs hbM0
  go_upto_region 24 with fail
  have hS : (fun w' : World => Blk w' NB #[.int .i64 x.nets, .slice a3 ll c3, .slice a4 x.ps.length c4] 31 ∧ w'.cell? ⟨G, 2, none⟩ = some (.int .i64 WD) ∧ w'.cell? ⟨G, 3, none⟩ = some (.int .i64 LN)) { w3 with drawn := w3.drawn + 1 } := ⟨kN.drew, p1, p2⟩
  refine wp_region_any (by kernel_rfl) (wpAny_of_E (S := (fun w' : World => Blk w' NB #[.int .i64 x.nets, .slice a3 ll c3, .slice a4 x.ps.length c4] 31 ∧ w'.cell? ⟨G, 2, none⟩ = some (.int .i64 WD) ∧ w'.cell? ⟨G, 3, none⟩ = some (.int .i64 LN))) (l := 24) _ _ _ _ ?_)
  change wpAnyE _ _ _ _ _ _ _ _ _ w3.drew
  refine wpAnyE_takeL (i := 0) (v := ?_) rfl (by kernel_rfl) (fun _ _ _ h => h) (Or.inl ⟨by rfl, ?_⟩) hS ?_
  rotate_left
  · intro w hSw; (try dsimp only at hSw); have qA := hSw.1.cell; have lA := hSw.1.lt; have qB := hSw.2.1; have lB := lt_of_cell qB; have qC := hSw.2.2; have lC := lt_of_cell qC; (try dsimp only at lB lC); clear hSw; go_simp; (try with_reducible rfl)
  try simp only [Act.put, List.setIfInBounds_toArray, List.set_cons_zero, List.set_cons_succ]
  refine wpAnyE_takeL (i := 1) (v := ?_) rfl (by kernel_rfl) (fun _ _ _ h => h) (Or.inl ⟨by rfl, ?_⟩) hS ?_
  rotate_left
  · intro w hSw; (try dsimp only at hSw); have qA := hSw.1.cell; have lA := hSw.1.lt; have qB := hSw.2.1; have lB := lt_of_cell qB; have qC := hSw.2.2; have lC := lt_of_cell qC; (try dsimp only at lB lC); clear hSw; go_simp; (try with_reducible rfl)
  try simp only [Act.put, List.setIfInBounds_toArray, List.set_cons_zero, List.set_cons_succ]
  refine wpAnyE_takeL (i := 2) (v := ?_) rfl (by kernel_rfl) (fun _ _ _ h => h) (Or.inl ⟨by rfl, ?_⟩) hS ?_
  rotate_left
  · intro w hSw; (try dsimp only at hSw); have qA := hSw.1.cell; have lA := hSw.1.lt; have qB := hSw.2.1; have lB := lt_of_cell qB; have qC := hSw.2.2; have lC := lt_of_cell qC; (try dsimp only at lB lC); clear hSw; go_simp; (try with_reducible rfl)
  try simp only [Act.put, List.setIfInBounds_toArray, List.set_cons_zero, List.set_cons_succ]
  refine wpAnyE_takeL (i := 3) (v := ?_) rfl (by kernel_rfl) (fun _ _ _ h => h) (Or.inl ⟨by rfl, ?_⟩) hS ?_
  rotate_left
  · intro w hSw; (try dsimp only at hSw); have qA := hSw.1.cell; have lA := hSw.1.lt; have qB := hSw.2.1; have lB := lt_of_cell qB; have qC := hSw.2.2; have lC := lt_of_cell qC; (try dsimp only at lB lC); clear hSw; go_simp; (try with_reducible rfl)
  try simp only [Act.put, List.setIfInBounds_toArray, List.set_cons_zero, List.set_cons_succ]
  refine wpAnyE_takeL (i := 4) (v := ?_) rfl (by kernel_rfl) (fun _ _ _ h => h) (Or.inl ⟨by rfl, ?_⟩) hS ?_
  rotate_left
  · intro w hSw; (try dsimp only at hSw); have qA := hSw.1.cell; have lA := hSw.1.lt; have qB := hSw.2.1; have lB := lt_of_cell qB; have qC := hSw.2.2; have lC := lt_of_cell qC; (try dsimp only at lB lC); clear hSw; go_simp; (try with_reducible rfl)
  try simp only [Act.put, List.setIfInBounds_toArray, List.set_cons_zero, List.set_cons_succ]
  refine wpAnyE_takeL (i := 5) (v := ?_) rfl (by kernel_rfl) (fun _ _ _ h => h) (Or.inl ⟨by rfl, ?_⟩) hS ?_
  rotate_left
  · intro w hSw; (try dsimp only at hSw); have qA := hSw.1.cell; have lA := hSw.1.lt; have qB := hSw.2.1; have lB := lt_of_cell qB; have qC := hSw.2.2; have lC := lt_of_cell qC; (try dsimp only at lB lC); clear hSw; go_simp; (try with_reducible rfl)
  try simp only [Act.put, List.setIfInBounds_toArray, List.set_cons_zero, List.set_cons_succ]
  refine wpAnyE_takeL (i := 6) (v := ?_) rfl (by kernel_rfl) (fun _ _ _ h => h) (Or.inl ⟨by rfl, ?_⟩) hS ?_
  rotate_left
  · intro w hSw; (try dsimp only at hSw); have qA := hSw.1.cell; have lA := hSw.1.lt; have qB := hSw.2.1; have lB := lt_of_cell qB; have qC := hSw.2.2; have lC := lt_of_cell qC; (try dsimp only at lB lC); clear hSw; go_simp; (try with_reducible rfl)
  try simp only [Act.put, List.setIfInBounds_toArray, List.set_cons_zero, List.set_cons_succ]
  refine wpAnyE_takeL (i := 7) (v := ?_) rfl (by kernel_rfl) (fun _ _ _ h => h) (Or.inl ⟨by rfl, ?_⟩) hS ?_
  rotate_left
  · intro w hSw; (try dsimp only at hSw); have qA := hSw.1.cell; have lA := hSw.1.lt; have qB := hSw.2.1; have lB := lt_of_cell qB; have qC := hSw.2.2; have lC := lt_of_cell qC; (try dsimp only at lB lC); clear hSw; go_simp; (try with_reducible rfl)
  try simp only [Act.put, List.setIfInBounds_toArray, List.set_cons_zero, List.set_cons_succ]
  refine wpAnyE_takeL (i := 8) (v := ?_) rfl (by kernel_rfl) (fun _ _ _ h => h) (Or.inl ⟨by rfl, ?_⟩) hS ?_
  rotate_left
  · intro w hSw; (try dsimp only at hSw); have qA := hSw.1.cell; have lA := hSw.1.lt; have qB := hSw.2.1; have lB := lt_of_cell qB; have qC := hSw.2.2; have lC := lt_of_cell qC; (try dsimp only at lB lC); clear hSw; go_simp; (try with_reducible rfl)
  try simp only [Act.put, List.setIfInBounds_toArray, List.set_cons_zero, List.set_cons_succ]
  refine wpAnyE_takeL (i := 9) (v := ?_) rfl (by kernel_rfl) (fun _ _ _ h => h) (Or.inl ⟨by rfl, ?_⟩) hS ?_
  rotate_left
  · intro w hSw; (try dsimp only at hSw); have qA := hSw.1.cell; have lA := hSw.1.lt; have qB := hSw.2.1; have lB := lt_of_cell qB; have qC := hSw.2.2; have lC := lt_of_cell qC; (try dsimp only at lB lC); clear hSw; go_simp; (try with_reducible rfl)
  try simp only [Act.put, List.setIfInBounds_toArray, List.set_cons_zero, List.set_cons_succ]
  refine wpAnyE_takeL (i := 10) (v := ?_) rfl (by kernel_rfl) (fun _ _ _ h => h) (Or.inl ⟨by rfl, ?_⟩) hS ?_
  rotate_left
  · intro w hSw; (try dsimp only at hSw); have qA := hSw.1.cell; have lA := hSw.1.lt; have qB := hSw.2.1; have lB := lt_of_cell qB; have qC := hSw.2.2; have lC := lt_of_cell qC; (try dsimp only at lB lC); clear hSw; go_simp; (try with_reducible rfl)
  try simp only [Act.put, List.setIfInBounds_toArray, List.set_cons_zero, List.set_cons_succ]
  refine wpAnyE_takeL (i := 11) (v := ?_) rfl (by kernel_rfl) (fun _ _ _ h => h) (Or.inl ⟨by rfl, ?_⟩) hS ?_
  rotate_left
  · intro w hSw; (try dsimp only at hSw); have qA := hSw.1.cell; have lA := hSw.1.lt; have qB := hSw.2.1; have lB := lt_of_cell qB; have qC := hSw.2.2; have lC := lt_of_cell qC; (try dsimp only at lB lC); clear hSw; go_simp; (try with_reducible rfl)
  try simp only [Act.put, List.setIfInBounds_toArray, List.set_cons_zero, List.set_cons_succ]
  refine wpAnyE_takeL (i := 12) (v := ?_) rfl (by kernel_rfl) (fun _ _ _ h => h) (Or.inl ⟨by rfl, ?_⟩) hS ?_
  rotate_left
  · intro w hSw; (try dsimp only at hSw); have qA := hSw.1.cell; have lA := hSw.1.lt; have qB := hSw.2.1; have lB := lt_of_cell qB; have qC := hSw.2.2; have lC := lt_of_cell qC; (try dsimp only at lB lC); clear hSw; go_simp; (try with_reducible rfl)
  try simp only [Act.put, List.setIfInBounds_toArray, List.set_cons_zero, List.set_cons_succ]
  refine wpAnyE_takeL (i := 13) (v := ?_) rfl (by kernel_rfl) (fun _ _ _ h => h) (Or.inl ⟨by rfl, ?_⟩) hS ?_
  rotate_left
  · intro w hSw; (try dsimp only at hSw); have qA := hSw.1.cell; have lA := hSw.1.lt; have qB := hSw.2.1; have lB := lt_of_cell qB; have qC := hSw.2.2; have lC := lt_of_cell qC; (try dsimp only at lB lC); clear hSw; go_simp; (try with_reducible rfl)
  try simp only [Act.put, List.setIfInBounds_toArray, List.set_cons_zero, List.set_cons_succ]
  refine wpAnyE_takeL (i := 14) (v := ?_) rfl (by kernel_rfl) (fun _ _ _ h => h) (Or.inl ⟨by rfl, ?_⟩) hS ?_
  rotate_left
  · intro w hSw; (try dsimp only at hSw); have qA := hSw.1.cell; have lA := hSw.1.lt; have qB := hSw.2.1; have lB := lt_of_cell qB; have qC := hSw.2.2; have lC := lt_of_cell qC; (try dsimp only at lB lC); clear hSw; go_simp; (try with_reducible rfl)
  try simp only [Act.put, List.setIfInBounds_toArray, List.set_cons_zero, List.set_cons_succ]
  refine wpAnyE_takeL (i := 15) (v := ?_) rfl (by kernel_rfl) (fun _ _ _ h => h) (Or.inl ⟨by rfl, ?_⟩) hS ?_
  rotate_left
  · intro w hSw; (try dsimp only at hSw); have qA := hSw.1.cell; have lA := hSw.1.lt; have qB := hSw.2.1; have lB := lt_of_cell qB; have qC := hSw.2.2; have lC := lt_of_cell qC; (try dsimp only at lB lC); clear hSw; go_simp; (try with_reducible rfl)
  try simp only [Act.put, List.setIfInBounds_toArray, List.set_cons_zero, List.set_cons_succ]
  refine wpAnyE_takeL (i := 16) (v := ?_) rfl (by kernel_rfl) (fun _ _ _ h => h) (Or.inl ⟨by rfl, ?_⟩) hS ?_
  rotate_left
  · intro w hSw; (try dsimp only at hSw); have qA := hSw.1.cell; have lA := hSw.1.lt; have qB := hSw.2.1; have lB := lt_of_cell qB; have qC := hSw.2.2; have lC := lt_of_cell qC; (try dsimp only at lB lC); clear hSw; go_simp; (try with_reducible rfl)
  try simp only [Act.put, List.setIfInBounds_toArray, List.set_cons_zero, List.set_cons_succ]
  refine wpAnyE_takeL (i := 17) (v := ?_) rfl (by kernel_rfl) (fun _ _ _ h => h) (Or.inl ⟨by rfl, ?_⟩) hS ?_
  rotate_left
  · intro w hSw; (try dsimp only at hSw); have qA := hSw.1.cell; have lA := hSw.1.lt; have qB := hSw.2.1; have lB := lt_of_cell qB; have qC := hSw.2.2; have lC := lt_of_cell qC; (try dsimp only at lB lC); clear hSw; go_simp; (try with_reducible rfl)
  try simp only [Act.put, List.setIfInBounds_toArray, List.set_cons_zero, List.set_cons_succ]
  refine wpAnyE_takeL (i := 18) (v := ?_) rfl (by kernel_rfl) (fun _ _ _ h => h) (Or.inl ⟨by rfl, ?_⟩) hS ?_
  rotate_left
  · intro w hSw; (try dsimp only at hSw); have qA := hSw.1.cell; have lA := hSw.1.lt; have qB := hSw.2.1; have lB := lt_of_cell qB; have qC := hSw.2.2; have lC := lt_of_cell qC; (try dsimp only at lB lC); clear hSw; go_simp; (try with_reducible rfl)
  try simp only [Act.put, List.setIfInBounds_toArray, List.set_cons_zero, List.set_cons_succ]
  refine wpAnyE_takeL (i := 19) (v := ?_) rfl (by kernel_rfl) (fun _ _ _ h => h) (Or.inl ⟨by rfl, ?_⟩) hS ?_
  rotate_left
  · intro w hSw; (try dsimp only at hSw); have qA := hSw.1.cell; have lA := hSw.1.lt; have qB := hSw.2.1; have lB := lt_of_cell qB; have qC := hSw.2.2; have lC := lt_of_cell qC; (try dsimp only at lB lC); clear hSw; go_simp; (try with_reducible rfl)
  try simp only [Act.put, List.setIfInBounds_toArray, List.set_cons_zero, List.set_cons_succ]
  obtain ⟨y0, hy0⟩ : ∃ q, q = w3.drew := ⟨_, rfl⟩
  have hbc : Below w3.heap.size w3 y0 := by rw [hy0]; exact (Below.refl _ w3).drew
  have kNc := Blk.by hbc kN
  have p1c := cell_by' hbc p1
  have p2c := cell_by' hbc p2
  rw [← hy0]
  clear hy0
  refine wpAnyE_oneL (k := 20) (by kernel_rfl) rfl (fun K hK => ?_)
  go_simp
  have hal : Below y0.heap.size y0 (y0.alloc (.cells #[.int .i64 2, .slice (some ⟨G, 0, none⟩) 2 2, .int .i64 WD, .int .i64 LN] 52)) := (Below.refl _ y0).alloc (Nat.le_refl _) _
  have hsz0 := hbc.size
  replace kNc := Blk.by hal kNc
  replace p1c := cell_by' hal p1c
  replace p2c := cell_by' hal p2c
  replace hbc := below_on hal hbc
  have kD : Blk (y0.alloc (.cells #[.int .i64 2, .slice (some ⟨G, 0, none⟩) 2 2, .int .i64 WD, .int .i64 LN] 52)) y0.heap.size #[.int .i64 2, .slice (some ⟨G, 0, none⟩) 2 2, .int .i64 WD, .int .i64 LN] 52 := Blk.new _ rfl
  refine hK.out _ _ (fun _ => ⟨kNc, p1c, p2c⟩) ?_
  try simp only [Act.put, List.setIfInBounds_toArray, List.set_cons_zero, List.set_cons_succ]
  clear hal hK
  generalize y0.alloc (.cells #[.int .i64 2, .slice (some ⟨G, 0, none⟩) 2 2, .int .i64 WD, .int .i64 LN] 52) = y1 at *
  generalize y0.heap.size = DB at *
  refine wpAnyE_oneL (k := 21) (by kernel_rfl) rfl (fun K hK => ?_)
  have hbA : Below w2.heap.size w2 y1 := below_on hbc hb3
  have hOy := HO2.out.by hbA
  refine step_appT (by rfl) _ _ (by rfl) mid (.slice a3 ll c3) ll (tcells L) (by rfl) (by have := hOy.2.1; rwa [HLL.out] at this) ⟨DB, 0, none⟩ 1 1 [.int .i64 2, (.slice (some ⟨G, 0, none⟩) 2 2), .int .i64 WD, .int .i64 LN] (by rfl) rfl (World.news_of_block (cs := #[.int .i64 2, .slice (some ⟨G, 0, none⟩) 2 2, .int .i64 WD, .int .i64 LN]) kD) (fun u hu => by
    simp at hu
    rcases hu with rfl | rfl | rfl | rfl <;> rfl) (by decide) (by omega) hOy.1 ?_
  intro g cb y2 hrow hgr hg
  have hown := HO2.out.2.1.lt
  have hNy := kNc.lt
  have kN3 : Blk y2 NB #[.int .i64 x.nets, .slice a3 ll c3, .slice a4 x.ps.length c4] 31 := (hgr.block _ kNc.lt (fun e => by have := hown _ e.symm; omega)).trans kNc
  have hGy : G < y1.heap.size := by have := hbc.size; omega
  have p1d : y2.cell? ⟨G, 2, none⟩ = some (.int .i64 WD) := hgr.cell p1c (fun e => by have := hown _ e.symm; dsimp only at this; omega)
  have p2d : y2.cell? ⟨G, 3, none⟩ = some (.int .i64 LN) := hgr.cell p2c (fun e => by have := hown _ e.symm; dsimp only at this; omega)
  have hP1 := HP2.out.by hbA
  have hP3 : BldP y2 lo mid (.slice a4 x.ps.length c4) x.ps := ⟨Nat.le_trans hP1.1 hgr.size, row_same hP1.2.1 (fun q hq => hgr.block q (hP1.2.1.lt q hq).2 (fun e => by have := hP1.2.2 q hq; have := hown _ e.symm; omega)), hP1.2.2⟩
  have hPI : OwnR y1 G (G + 1) (.slice (some ⟨G, 0, none⟩) 2 2) (zs.take 2) := HPI.out.keep (hbc.block _ hGl)
  have hO3 := Out.push (f := G) (pv := (.slice (some ⟨G, 0, none⟩) 2 2)) (x := ⟨2, zs.take 2, WD, LN⟩) HO2.out hbA HLL.out hPI hG1 hGy hgr hg hrow
  have hb4 : Below NB w3 y2 := (below_less hbc (by omega)).trans ⟨hgr.os, hgr.tape, hgr.output, hgr.size, fun k hk => hgr.block k (by omega) (fun e => by have := hown _ e.symm; omega)⟩
  refine hK.out _ _ (fun _ => ⟨kN3, p1d, p2d⟩) ?_
  try simp only [Act.put, List.setIfInBounds_toArray, List.set_cons_zero, List.set_cons_succ]
  clear hK
  have hS2 : (fun w' : World => Blk w' NB #[.int .i64 x.nets, .slice a3 ll c3, .slice a4 x.ps.length c4] 31 ∧ w'.cell? ⟨G, 2, none⟩ = some (.int .i64 WD) ∧ w'.cell? ⟨G, 3, none⟩ = some (.int .i64 LN)) y2 := ⟨kN3, p1d, p2d⟩
  refine wpAnyE_takeL (i := 22) (v := ?_) rfl (by kernel_rfl) (fun _ _ _ h => h) (Or.inl ⟨by rfl, ?_⟩) hS2 ?_
  rotate_left
  · intro w hSw; (try dsimp only at hSw); have qA := hSw.1.cell; have lA := hSw.1.lt; have qB := hSw.2.1; have lB := lt_of_cell qB; have qC := hSw.2.2; have lC := lt_of_cell qC; (try dsimp only at lB lC); clear hSw; go_simp; (try with_reducible rfl)
  try simp only [Act.put, List.setIfInBounds_toArray, List.set_cons_zero, List.set_cons_succ]
  refine wpAnyE_takeL (i := 23) (v := ?_) rfl (by kernel_rfl) (fun _ _ _ h => h) (Or.inl ⟨by rfl, ?_⟩) hS2 ?_
  rotate_left
  · intro w hSw; (try dsimp only at hSw); have qA := hSw.1.cell; have lA := hSw.1.lt; have qB := hSw.2.1; have lB := lt_of_cell qB; have qC := hSw.2.2; have lC := lt_of_cell qC; (try dsimp only at lB lC); clear hSw; go_simp; (try with_reducible rfl)
  try simp only [Act.put, List.setIfInBounds_toArray, List.set_cons_zero, List.set_cons_succ]
  refine wpAnyE_oneL (k := 24) (by kernel_rfl) rfl (fun K hK => ?_)
  have cN := kN3.cell
  have fN := kN3.free
  have lN := kN3.lt
  go_simp
  refine hK.out _ _ (fun h => absurd rfl h) ?_
  refine wpAnyE_done (by kernel_rfl) ?_ _
  clear hS hS2 hK p1c p2c p1 p2 p1d p2d kN kNc kD
  have hbf : Below NB w (y2.setCell ⟨NB, 1, none⟩ (.slice (some ⟨g, 0, none⟩) (ll + 1) cb)) := (hbM.trans hb4).setCell (Nat.le_refl _) _
  have HBX := Lib.hid (BoxN.dev (d := ⟨2, zs.take 2, WD, LN⟩) kN3 hlo hP3 hO3 (by rw [List.map_append, HL1.out]; rfl))
  clear cN fN lN kN3 hb4 hP3 hO3 hP1 hPI hown hgr hg hrow hOy
  generalize y2.setCell ⟨NB, 1, none⟩ (.slice (some ⟨g, 0, none⟩) (ll + 1) cb) = y3 at *
  go_wp2
  refine bodyPost_ret (v := .bool true) (by simp [results, Tryd.results37, go_sem, *]) rfl ⟨by rw [HL.out]; rfl, fun y hy => ?_, hbf⟩
  rw [HL.out] at hy
  obtain rfl := (Option.some.inj hy).symm
  exact HBX.out
end Go.Proofs.YtglddnkpccgchaaDoor

/- The program's netLine: all its ways joined. -/
namespace Go.Proofs.YtglddnkpccgchaaDoor
open Go.RowKit
set_option linter.unusedVariables false

theorem netLine_any (x : Nl) (b : Bool) (s : ByteArray) (NB B lo : Nat) (w : World) (hs : s.size ≤ 1048576) (hx : BoxN w NB lo x) (hG : Glob B w) (hB : B ≤ NB) (hds : x.ds.length ≤ 24) (hps : x.ps.length ≤ 8) :
    Calls Tryd.prog 37 #[.pointer (some ⟨NB, 0, none⟩), .string s, .bool b] w fun e w' => e = .returned (.bool (lineL b x (splL 32 s.data.toList)).isSome) ∧ (∀ y, lineL b x (splL 32 s.data.toList) = some y → BoxN w' NB lo y) ∧ Below NB w w' := by
  have hl := lsts_wrd 32 s
  match hW : wrdS 32 s with
  | [] => exact absurd hW (wrd_size 32 s).2.2
  | s0 :: r =>
    rw [hW] at hl
    rw [← hl]
    cases b with
    | true =>
      by_cases hk : s0.data.toList = wNetsL
      · exact netl_n x s s0 r NB B lo w hW hs hx hG hB hk
      · exact netl_a x s s0 r NB B lo w hW hs hx hG hB hk
    | false =>
      by_cases hk : s0.data.toList = wNetsL
      · exact netl_b x s s0 r NB B lo w hW hs hx hG hB hk
      · by_cases hp : s0.data.toList = wPortL
        · by_cases hr : r.length = 2
          · match r, hr, hW with
            | [nm, a], _, hW =>
              by_cases hn : nameB nm = true
              · by_cases hd : x.ds = []
                · match hnum : numL a.data.toList with
                  | none => exact netl_p4 x s s0 _ NB B lo w hW hs hx hG hB nm a hp rfl hn hd hnum
                  | some m => exact netl_p5 x s s0 _ NB B lo w hW hs hx hG hB nm a hp rfl hn hd m hnum hps
                · exact netl_p3 x s s0 _ NB B lo w hW hs hx hG hB nm a hp rfl hn hd
              · exact netl_p2 x s s0 _ NB B lo w hW hs hx hG hB nm a hp rfl (by simpa using hn)
          · exact netl_p1 x s s0 r NB B lo w hW hs hx hG hB hp hr
        · rcases kind_cases s0 with ⟨h1, _⟩ | ⟨k, h1, _, hk3⟩
          · exact netl_k0 x s s0 r NB B lo w hW hs hx hG hB hp hk h1
          · cases hc : cntB (numsL (lsts r)) ((pinN k : Int) + 2) with
            | false =>
              rcases hk3 with rfl | rfl | rfl
              · exact netl_k1_0 x s s0 r NB B lo w hW hs hx hG hB h1 hc
              · exact netl_k1_1 x s s0 r NB B lo w hW hs hx hG hB h1 hc
              · exact netl_k1_2 x s s0 r NB B lo w hW hs hx hG hB h1 hc
            | true =>
              match hn : numsL (lsts r) with
              | none => rw [hn] at hc; cases hc
              | some zs =>
                rw [hn] at hc
                have hz : zs.length = pinN k + 2 := by
                  have : ((zs.length : Int) == (pinN k : Int) + 2) = true := hc
                  simp at this
                  omega
                have get : ∀ i, i < zs.length → ∃ z, zs[i]? = some z := fun i hi => ⟨_, List.getElem?_eq_getElem hi⟩
                rcases hk3 with rfl | rfl | rfl
                · obtain ⟨WD, h3⟩ := get 3 (by rw [hz]; decide)
                  obtain ⟨LN, h4⟩ := get 4 (by rw [hz]; decide)
                  exact netl_d_0 x s s0 r NB B lo w hW hs hx hG hB zs WD LN h1 hn hz h3 h4 hds
                · obtain ⟨WD, h3⟩ := get 3 (by rw [hz]; decide)
                  obtain ⟨LN, h4⟩ := get 4 (by rw [hz]; decide)
                  exact netl_d_1 x s s0 r NB B lo w hW hs hx hG hB zs WD LN h1 hn hz h3 h4 hds
                · obtain ⟨WD, h3⟩ := get 2 (by rw [hz]; decide)
                  obtain ⟨LN, h4⟩ := get 3 (by rw [hz]; decide)
                  exact netl_d_2 x s s0 r NB B lo w hW hs hx hG hB zs WD LN h1 hn hz h3 h4 hds
end Go.Proofs.YtglddnkpccgchaaDoor

/- The program's ParseNetlist. -/
namespace Go.Proofs.YtglddnkpccgchaaDoor
open Go.RowKit
set_option linter.unusedVariables false
set_option linter.unusedSimpArgs false

theorem below_drewB (w : World) (n : Nat) : Below w.heap.size w (w.drewN n) := ⟨rfl, rfl, rfl, Nat.le_refl _, fun _ _ => rfl⟩
theorem cut_none (t : ByteArray) (B : Nat) (w : World) (hs : t.size ≤ 1048576) (hG : Glob B w) (h : (10 : UInt8) ∉ t.data.toList) :
    Calls Tryd.prog 36 #[.string t, .string ⟨#[10]⟩] w fun e w' => e = .returned (.tuple #[.string t, .string ⟨#[]⟩, .bool false]) ∧ Below w.heap.size w w' := by
  obtain ⟨_, _, _, _, m, hm⟩ := hG
  refine (Tryd.strings_Cut t ⟨#[10]⟩ m w (by omega) hm).mono ?_
  rintro e w' ⟨rfl, n, rfl⟩
  have hc : Go.Lib.cut t.data.toList (⟨#[10]⟩ : ByteArray).data.toList = (t.data.toList, [], false) := cut_no h
  rw [hc]
  exact ⟨rfl, below_drewB w n⟩
theorem cut_some (t : ByteArray) (p r : List UInt8) (B : Nat) (w : World) (hs : t.size ≤ 1048576) (hG : Glob B w) (h : t.data.toList = p ++ 10 :: r) (hp : (10 : UInt8) ∉ p) :
    Calls Tryd.prog 36 #[.string t, .string ⟨#[10]⟩] w fun e w' => e = .returned (.tuple #[.string (mkB p), .string (mkB r), .bool true]) ∧ Below w.heap.size w w' := by
  obtain ⟨_, _, _, _, m, hm⟩ := hG
  refine (Tryd.strings_Cut t ⟨#[10]⟩ m w (by omega) hm).mono ?_
  rintro e w' ⟨rfl, n, rfl⟩
  have hc : Go.Lib.cut t.data.toList (⟨#[10]⟩ : ByteArray).data.toList = (p, r, true) := by rw [h]; exact cut_at hp
  rw [hc]
  exact ⟨rfl, below_drewB w n⟩
/-- The parser's round, over the text that is left. -/
theorem prs_text_last (i : Nat) (x : Nl) {l : List UInt8} (h : (10 : UInt8) ∉ l) : prsL i x (splL 10 l) = if 0 < i ∧ l = [] then (x, 0, 0) else (nl0, 4, (i : Int) + 1) := by
  rw [splL_no h]
  rfl
theorem prs_text_next (i : Nat) (x : Nl) {p : List UInt8} (r : List UInt8) (h : (10 : UInt8) ∉ p) : prsL i x (splL 10 (p ++ 10 :: r)) = match lineL (decide (i = 0)) x (splL 32 p) with
    | none => (nl0, 4, (i : Int) + 1)
    | some y => if nlB y = true then prsL (i + 1) y (splL 10 r) else (nl0, 2, (i : Int) + 1) := by
  rw [splL_app r h]
  match hs : splL 10 r, splL_ne 10 r with
  | m :: t, _ => rfl
theorem ownNl_zero (w : World) (lo hi : Nat) (h : lo ≤ hi) : OwnNl w lo hi (.agg #[.int .i64 0, .slice none 0 0, .slice none 0 0]) nl0 :=
  ⟨_, _, lo, lo, lo, lo, rfl, .inl ⟨_, _, rfl, rfl⟩, .inl ⟨_, _, rfl, rfl⟩, ⟨Nat.le_refl _, h⟩, ⟨Nat.le_refl _, h⟩, .inl (Nat.le_refl _)⟩
def strLen : Value → Nat
  | .string t => t.size
  | _ => 0
theorem data_mkB (l : List UInt8) : (mkB l).data.toList = l := rfl

set_option maxRecDepth 100000 in
set_option maxHeartbeats 4000000 in
theorem implParse_any (s : ByteArray) (w : World) (hs : s.size ≤ 1048576) (hG : Glob w.heap.size w) :
    Calls Tryd.prog 12 #[.string s] w fun e w' => ∃ v', e = .returned (.tuple #[v', .int .i64 (prsS s).2.1, .int .i64 (prsS s).2.2]) ∧ OwnNl w' w.heap.size w'.heap.size v' (prsS s).1 ∧ Below w.heap.size w w' := by
  have HG := Lib.hid hG
  have HCN := Lib.hid (fun t B w hs hG h => cut_none t B w hs hG h)
  have HCS := Lib.hid (fun t p r B w hs hG h hp => cut_some t p r B w hs hG h hp)
  have HLN := Lib.hid (fun x b s NB B lo w hs hx hG hB hds hps => netLine_any x b s NB B lo w hs hx hG hB hds hps)
  have HVA := Lib.hid (fun x v w h hok hnn => implNl_any x v w h hok hnn)
  have HR0 : Hid (prsL 0 nl0 (splL 10 s.data.toList) = prsS s) := Lib.hid rfl
  generalize hRR : prsS s = R at *
  clear hRR hG
  go_enter Tryd.func12, Tryd.ntmps12
  go_wp2
  have hw1 : (w.alloc (.cells #[.int .i64 0, .slice none 0 0, .slice none 0 0] 31)).heap.size = w.heap.size + 1 := by simp
  have kR0 : Blk ((w.alloc (.cells #[.int .i64 0, .slice none 0 0, .slice none 0 0] 31)).alloc (.cells #[.int .i64 0, .slice none 0 0, .slice none 0 0] 31)) w.heap.size #[.int .i64 0, .slice none 0 0, .slice none 0 0] 31 := (Blk.new _ rfl).past _
  have kN0 : Blk ((w.alloc (.cells #[.int .i64 0, .slice none 0 0, .slice none 0 0] 31)).alloc (.cells #[.int .i64 0, .slice none 0 0, .slice none 0 0] 31)) (w.heap.size + 1) #[.int .i64 0, .slice none 0 0, .slice none 0 0] 31 := Blk.new _ hw1.symm
  have hb0 : Below w.heap.size w ((w.alloc (.cells #[.int .i64 0, .slice none 0 0, .slice none 0 0] 31)).alloc (.cells #[.int .i64 0, .slice none 0 0, .slice none 0 0] 31)) := (by ((repeat (first | (with_reducible exact Below.refl _ _) | (with_reducible refine below_drewN ?_ _) | (with_reducible refine Below.drew ?_) | (with_reducible refine below_al ?_ _) | (with_reducible refine below_on (by assumption) ?_) | ((with_reducible refine Below.setCell ?_ ?_ _); rotate_left; focus (first | omega | (simp; done) | (simp; omega))) | (with_reducible assumption))); done))
  have hz0 : ((w.alloc (.cells #[.int .i64 0, .slice none 0 0, .slice none 0 0] 31)).alloc (.cells #[.int .i64 0, .slice none 0 0, .slice none 0 0] 31)).heap.size = w.heap.size + 2 := by simp
  clear hw1
  generalize ((w.alloc (.cells #[.int .i64 0, .slice none 0 0, .slice none 0 0] 31)).alloc (.cells #[.int .i64 0, .slice none 0 0, .slice none 0 0] 31)) = w1 at *
  obtain ⟨NB, hNB⟩ : ∃ q, q = w.heap.size + 1 := ⟨_, rfl⟩
  rw [← hNB] at kN0 ⊢
  have HBX0 : Hid (BoxN w1 NB (NB + 1) nl0) := Lib.hid ⟨NB + 1, _, _, [], kN0, ⟨by omega, Nat.le_refl _⟩, (show NB + 1 = w1.heap.size by omega) ▸ BldP.nil w1 (NB + 1), Out.nil (by omega), rfl, fun _ => rfl⟩
  have hb1 : Below NB w1 w1 := Below.refl _ _
  have HR := Lib.hid (And.intro kR0 hb0)
  have hnw : w.heap.size < NB := by omega
  clear kR0 kN0 hb0 hNB
  go_loopw [0, 6, 7, 8, 9] (fun v0 v6 v7 v8 v9 wr => ∃ (i : Nat) (t : ByteArray) (x : Nl), v0 = .string t ∧ v6 = .int .i64 ((i : Int) + 1) ∧ i + t.size ≤ s.size ∧ Hid (prsL i x (splL 10 t.data.toList) = R) ∧ Hid (nlB x = true ∧ NlF x) ∧ Hid (BoxN wr NB (NB + 1) x) ∧ Below NB w1 wr) (fun v0 _ _ _ _ _ => strLen v0)
  case atStart => exact ⟨0, s, nl0, rfl, rfl, by omega, HR0, Lib.hid ⟨nlB_nl0, nl0_f⟩, HBX0, hb1⟩
  case round =>
    obtain ⟨i, t, x, rfl, rfl, hit, HI, HX, HB, hb⟩ := hrel
    clear hb1
    have hnb := HB.out.lt
    have hzr := hb.size
    have kR : Blk wr w.heap.size #[.int .i64 0, .slice none 0 0, .slice none 0 0] 31 := (hb.block _ hnw).trans HR.out.1
    have hbn : Below w.heap.size w wr := HR.out.2.trans (below_less hb (by omega))
    have hts : t.size ≤ 1048576 := by omega
    have hwr : w.heap.size ≤ wr.heap.size := hbn.size
    have HGr := Lib.hid (HG.out.on hbn)
    have i4 : IntKind.i64.wrap ((i : Int) + 1 + 1) = (i : Int) + 1 + 1 := by simp [IntKind.wrap, IntKind.bits, IntKind.signed]; omega
    have eE := empty_is t
    by_cases hend : 0 < i ∧ t.data.toList = []
    · have HRX : Hid (R = (x, 0, 0)) := Lib.hid (by rw [← HI.out, hend.2]; show (if 0 < i ∧ [] = [] then _ else _) = _; rw [if_pos ⟨hend.1, rfl⟩])
      rw [decide_eq_true hend.2] at eE
      have ieq : ((i : Int) + 1 == 1) = false := by have := hend.1; simp; omega
      have ieq2 : ¬ i = 0 := by have := hend.1; omega
      obtain ⟨a1, c1, a2, c2, kN, hO⟩ := HB.out.own
      have HO := Lib.hid hO
      clear hend HI hO
      have cN := kN.cell
      have lN := kN.lt
      have cR := kR.cell
      have fR := kR.free
      have lR := kR.lt
      have HFO : Hid (OwnNl (((wr.setCell ⟨w.heap.size, 0, none⟩ (.int .i64 x.nets)).setCell ⟨w.heap.size, 1, none⟩ (.slice a1 x.ds.length c1)).setCell ⟨w.heap.size, 2, none⟩ (.slice a2 x.ps.length c2)) (NB + 1) wr.heap.size (.agg #[.int .i64 x.nets, .slice a1 x.ds.length c1, .slice a2 x.ps.length c2]) x) := Lib.hid (((HO.out.past (Within.off (g := w.heap.size) (o := 0) (.int .i64 x.nets)) (by omega)).past (Within.off (g := w.heap.size) (o := 1) (.slice a1 x.ds.length c1)) (by omega)).past (Within.off (g := w.heap.size) (o := 2) (.slice a2 x.ps.length c2)) (by omega))
      have kRz : Blk (((wr.setCell ⟨w.heap.size, 0, none⟩ (.int .i64 x.nets)).setCell ⟨w.heap.size, 1, none⟩ (.slice a1 x.ds.length c1)).setCell ⟨w.heap.size, 2, none⟩ (.slice a2 x.ps.length c2)) w.heap.size #[.int .i64 x.nets, .slice a1 x.ds.length c1, .slice a2 x.ps.length c2] 31 := ((kR.set 0 _).set 1 _).set 2 _
      have hbf : Below w.heap.size w (((wr.setCell ⟨w.heap.size, 0, none⟩ (.int .i64 x.nets)).setCell ⟨w.heap.size, 1, none⟩ (.slice a1 x.ds.length c1)).setCell ⟨w.heap.size, 2, none⟩ (.slice a2 x.ps.length c2)) := ((hbn.setCell (Nat.le_refl _) _).setCell (Nat.le_refl _) _).setCell (Nat.le_refl _) _
      clear HO
      go_wp2
      refine bodyPost_ret (v := .tuple #[.agg #[.int .i64 x.nets, .slice a1 x.ds.length c1, .slice a2 x.ps.length c2], .int .i64 0, .int .i64 0]) (by simp [results, Tryd.results12, go_sem, *]) rfl ⟨_, by rw [HRX.out], by rw [HRX.out]; exact HFO.out.wide (by omega) (by simp), hbf⟩
    · rcases split_first 10 t.data.toList with hno | ⟨p, r, he, hp⟩
      · have HRX : Hid (R = (nl0, 4, (i : Int) + 1)) := Lib.hid (by rw [← HI.out, prs_text_last i x hno, if_neg hend])
        have HCT := Lib.hid (HCN.out t w.heap.size wr hts HGr.out hno)
        by_cases ht : t.data.toList = []
        · have ieq : ((i : Int) + 1 == 1) = true := by
            rcases Nat.eq_zero_or_pos i with h | h
            · simp; omega
            · exact absurd ⟨h, ht⟩ hend
          rw [decide_eq_true ht] at eE
          clear hend hno ht HI
          go_wp2_with fail
          refine HCT.out.mono ?_
          rintro e w2 ⟨rfl, hb2⟩
          replace kR := Blk.by hb2 kR
          replace hbn := below_on hb2 hbn
          clear hb2
          have cR := kR.cell
          have fR := kR.free
          have lR := kR.lt
          go_wp2
          refine bodyPost_ret (v := .tuple #[.agg #[.int .i64 0, .slice none 0 0, .slice none 0 0], .int .i64 4, .int .i64 ((i : Int) + 1)]) (by simp [results, Tryd.results12, go_sem, *]) rfl ⟨_, by rw [HRX.out], by rw [HRX.out]; exact ownNl_zero _ _ _ (by have := hbn.size; simp only [World.size_setCell] at this ⊢; omega), ((hbn.setCell (Nat.le_refl _) _).setCell (Nat.le_refl _) _).setCell (Nat.le_refl _) _⟩
        · rw [decide_eq_false ht] at eE
          clear hend hno ht HI
          go_wp2_with fail
          refine HCT.out.mono ?_
          rintro e w2 ⟨rfl, hb2⟩
          replace kR := Blk.by hb2 kR
          replace hbn := below_on hb2 hbn
          clear hb2
          have cR := kR.cell
          have fR := kR.free
          have lR := kR.lt
          go_wp2
          refine bodyPost_ret (v := .tuple #[.agg #[.int .i64 0, .slice none 0 0, .slice none 0 0], .int .i64 4, .int .i64 ((i : Int) + 1)]) (by simp [results, Tryd.results12, go_sem, *]) rfl ⟨_, by rw [HRX.out], by rw [HRX.out]; exact ownNl_zero _ _ _ (by have := hbn.size; simp only [World.size_setCell] at this ⊢; omega), ((hbn.setCell (Nat.le_refl _) _).setCell (Nat.le_refl _) _).setCell (Nat.le_refl _) _⟩
      · have HCT := Lib.hid (HCS.out t p r w.heap.size wr hts HGr.out he hp)
        have HNX : Hid (R = match lineL (decide (i = 0)) x (splL 32 p) with
            | none => (nl0, 4, (i : Int) + 1)
            | some y => if nlB y = true then prsL (i + 1) y (splL 10 r) else (nl0, 2, (i : Int) + 1)) := Lib.hid (by rw [← HI.out, he, prs_text_next i x r hp])
        rw [decide_eq_false (by rw [he]; simp)] at eE
        have hsz : p.length + 1 + r.length = t.size := by
          have := size_data t
          rw [he] at this
          simp at this
          omega
        have HPS : Hid (∀ q ∈ splL 32 p, q.length ≤ 1048576) := Lib.hid (fun q hq => by have := (splL_size 32 p).1 q hq; omega)
        have ieq : ((i : Int) + 1 == 1) = decide (i = 0) := by
          by_cases h : i = 0
          · subst h; rfl
          · rw [decide_eq_false h]; simp; omega
        have hmp := size_mkB p
        clear hend he hp HI
        go_wp2_with fail
        refine HCT.out.mono ?_
        rintro e w2 ⟨rfl, hb2⟩
        have HB2 := Lib.hid (HB.out.by hb2)
        have HG2 := Lib.hid (HGr.out.by hb2 hwr)
        replace kR := Blk.by hb2 kR
        replace hbn := below_on hb2 hbn
        have hbN2 : Below NB w1 w2 := hb.trans (below_less hb2 (by omega))
        clear hb2 hb
        go_wp2_with fail
        have hcn := nlB_cnt HX.out.1
        refine (HLN.out x (decide (i = 0)) (mkB p) NB w.heap.size (NB + 1) w2 (by omega) HB2.out HG2.out (by omega) hcn.1 hcn.2).mono ?_
        rintro e w3 ⟨rfl, hy3, hb3⟩
        rw [data_mkB] at hy3 ⊢
        have hbN3 := hbN2.trans hb3
        replace kR : Blk w3 w.heap.size #[.int .i64 0, .slice none 0 0, .slice none 0 0] 31 := (hb3.block _ hnw).trans kR
        replace hbn := hbn.trans (below_less hb3 (by omega))
        clear hb3 hbN2 hcn
        match hl : lineL (decide (i = 0)) x (splL 32 p) with
        | none =>
          have HRX : Hid (R = (nl0, 4, (i : Int) + 1)) := Lib.hid (by rw [HNX.out, hl])
          simp only [Option.isSome_none]
          clear hl HNX hy3 hbN3
          have cR := kR.cell
          have fR := kR.free
          have lR := kR.lt
          go_wp2
          refine bodyPost_ret (v := .tuple #[.agg #[.int .i64 0, .slice none 0 0, .slice none 0 0], .int .i64 4, .int .i64 ((i : Int) + 1)]) (by simp [results, Tryd.results12, go_sem, *]) rfl ⟨_, by rw [HRX.out], by rw [HRX.out]; exact ownNl_zero _ _ _ (by have := hbn.size; simp only [World.size_setCell] at this ⊢; omega), ((hbn.setCell (Nat.le_refl _) _).setCell (Nat.le_refl _) _).setCell (Nat.le_refl _) _⟩
        | some y =>
          have HYF := Lib.hid (line_fits HX.out.2 HX.out.1 HPS.out hl)
          have HRY : Hid (R = if nlB y = true then prsL (i + 1) y (splL 10 r) else (nl0, 2, (i : Int) + 1)) := Lib.hid (by rw [HNX.out, hl])
          have HBY := Lib.hid (hy3 y hl)
          simp only [Option.isSome_some]
          clear hl HNX hy3
          obtain ⟨a1, c1, a2, c2, kN, hO⟩ := HBY.out.own
          have HV := Lib.hid hO.nl
          have cN := kN.cell
          have lN := kN.lt
          clear hO
          go_wp2_with fail
          refine (HVA.out y _ w3 HV.out HYF.out.2.1 HYF.out.1).mono ?_
          rintro e w4 ⟨rfl, hb4⟩
          have HB4 := Lib.hid (HBY.out.by hb4)
          have hs4 := HBY.out.lt
          have hbN4 : Below NB w1 w4 := hbN3.trans (below_less hb4 (by omega))
          replace kR := Blk.by hb4 kR
          replace hbn := below_on hb4 hbn
          clear hb4 cN lN kN hbN3 HV
          cases hBy : nlB y with
          | false =>
            have HRX : Hid (R = (nl0, 2, (i : Int) + 1)) := Lib.hid (by rw [HRY.out, hBy]; rfl)
            clear hBy HRY hbN4
            have cR := kR.cell
            have fR := kR.free
            have lR := kR.lt
            go_wp2
            refine bodyPost_ret (v := .tuple #[.agg #[.int .i64 0, .slice none 0 0, .slice none 0 0], .int .i64 2, .int .i64 ((i : Int) + 1)]) (by simp [results, Tryd.results12, go_sem, *]) rfl ⟨_, by rw [HRX.out], by rw [HRX.out]; exact ownNl_zero _ _ _ (by have := hbn.size; simp only [World.size_setCell] at this ⊢; omega), ((hbn.setCell (Nat.le_refl _) _).setCell (Nat.le_refl _) _).setCell (Nat.le_refl _) _⟩
          | true =>
            have HRX : Hid (prsL (i + 1) y (splL 10 (mkB r).data.toList) = R) := Lib.hid (by rw [HRY.out, hBy, data_mkB]; rfl)
            have HXY : Hid (nlB y = true ∧ NlF y) := Lib.hid ⟨hBy, HYF.out⟩
            have hmr := size_mkB r
            clear hBy HRY
            go_wp2
            exact ⟨⟨i + 1, mkB r, y, rfl, (by first | rfl | go_num | simp), by omega, HRX, HXY, HB4, hbN4⟩, (by show (mkB r).size < t.size; omega)⟩
end Go.Proofs.YtglddnkpccgchaaDoor
