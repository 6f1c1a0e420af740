/- The program's netNumbers. -/
import Derived.Test.YtglddnkpccgchaaDoorRdD
import Derived.Test.YtglddnkpccgchaaDoorValid0
namespace Go.Proofs.YtglddnkpccgchaaDoor
open Go.RowKit
set_option linter.unusedVariables false
set_option linter.unusedSimpArgs false

/-- So many numbers were read. -/
def cntB : Option (List Int) → Int → Bool
  | some zs, c => (zs.length : Int) == c
  | none, _ => false

set_option maxRecDepth 100000 in
set_option maxHeartbeats 2000000 in
theorem netNumbers_any (v : Value) (ss : List ByteArray) (cnt : Int) (B : Nat) (w : World) (h : StrSl w v ss) (hs : ∀ x ∈ ss, x.size ≤ 1048576) (hl : ss.length ≤ 1048577) (hB : B ≤ w.heap.size) (hG : Glob B w) :
    Calls Tryd.prog 69 #[v, .int .i64 cnt] w fun e w' => ∃ v', e = .returned (.tuple #[v', .bool (cntB (numsL (lsts ss)) cnt)]) ∧ (∀ zs, numsL (lsts ss) = some zs → BldI w' w.heap.size w'.heap.size v' zs) ∧ Below w.heap.size w w' := by
  have HST := Lib.hid h
  have HSZ := Lib.hid hs
  have HRD := Lib.hid (fun s w h hB hG => readDecimal_any s B w h hB hG)
  have HNX := Lib.hid (fun i l d n => @numsL_next (lsts ss) i l d n)
  have HNS := Lib.hid (fun i l => @numsL_stop (lsts ss) i l)
  have HAT := Lib.hid (fun (i : Nat) (x : ByteArray) (h : ss[i]? = some x) => show (lsts ss)[i]? = some x.data.toList from by unfold lsts; rw [List.getElem?_map, h]; rfl)
  have HTK : Hid ((lsts ss).take ss.length = lsts ss) := Lib.hid (List.take_of_length_le (by simp [lsts]))
  generalize lsts ss = L at *
  obtain ⟨a, c, rfl⟩ := h.sized
  obtain ⟨n, hn⟩ : ∃ n, ss.length = n := ⟨_, rfl⟩
  rw [hn] at HST HTK hl ⊢
  have HN := Lib.hid hn
  have HG := Lib.hid hG
  clear h hs hn hG
  go_enter Tryd.func69, Tryd.ntmps69
  go_wp2
  go_loopw [6, 8, 9, 10, 14] (fun u v8 v9 v10 vi wr => ∃ (i hi : Nat) (d : List Int), vi = .int .i64 (i : Int) ∧ i ≤ n ∧ Hid (numsL (L.take i) = some d) ∧ Hid (d.length = i) ∧ Hid (BldI wr w.heap.size hi u d) ∧ w.heap.size < hi ∧ Below w.heap.size w wr) (fun _ _ _ _ vi _ => n - (intOf vi).toNat)
  case atStart =>
    refine ⟨0, w.heap.size + 1, [], rfl, Nat.zero_le _, Lib.hid rfl, Lib.hid rfl, Lib.hid ?_, by omega, (by ((repeat (first | (with_reducible exact Below.refl _ _) | (with_reducible refine below_drewN ?_ _) | (with_reducible refine Below.drew ?_) | (with_reducible refine below_al ?_ _) | (with_reducible refine below_on (by assumption) ?_) | ((with_reducible refine Below.setCell ?_ ?_ _); rotate_left; focus (first | omega | (simp; done) | (simp; omega))) | (with_reducible assumption))); done))⟩
    have hB : Blk (w.alloc (.cells #[] 2)) w.heap.size #[] 2 := Blk.new _ rfl
    exact BldI.lit (zs := []) hB rfl (by simp) (Nat.le_refl _) (by omega) (by simp)
  case round =>
    obtain ⟨i, hi, d, rfl, hin, HD, HDL, HB, hhi, hb⟩ := hrel
    obtain ⟨a3, c3, rfl⟩ := HB.out.sized
    rw [HDL.out] at HB ⊢
    have hIs := HB.out.1
    have hzr := hb.size
    by_cases hlt : i < n
    · obtain ⟨x, hx⟩ : ∃ x, ss[i]? = some x := ⟨_, List.getElem?_eq_getElem (by rw [HN.out]; exact hlt)⟩
      rcases HST.out with ⟨_, _, e1, e2⟩ | ⟨g, o, cap, e1, e2, e3, e4⟩
      · exfalso
        have := HN.out
        rw [e2] at this
        simp at this
        omega
      rw [HN.out] at e1
      obtain ⟨rfl, rfl⟩ : a = some ⟨g, o, none⟩ ∧ c = cap := by simpa using e1
      have p1 := cell_by' hb (e4 i x hx)
      have HP := Lib.hid (HRD.out x wr (HSZ.out x (List.mem_of_getElem? hx)) (by omega) (HG.out.by hb hB))
      have HXA := Lib.hid (HAT.out i x hx)
      have i1 : (0 : Int) ≤ (i : Int) := by omega
      have i2 : (i : Int) < (n : Int) := by omega
      have HLT := Lib.hid hlt
      have hlp := lt_of_cell p1
      clear hx e1 e2 e3 e4
      match hrd : rdD x.data.toList with
      | none =>
        have HNO := Lib.hid (HNS.out i _ HXA.out (rd_no hrd))
        rw [hrd] at HP
        simp only [Option.getD_none, Option.isSome_none] at HP
        clear hrd
        go_wp2_with fail
        refine HP.out.mono ?_
        rintro e w1 ⟨rfl, hb1⟩
        have hbn : Below w.heap.size w w1 := below_on hb1 hb
        clear hlp p1 hb1 hb
        go_wp2
        refine bodyPost_ret (v := .tuple #[.slice none 0 0, .bool false]) (by simp [results, Tryd.results69, go_sem, *]) rfl ⟨_, by rw [HNO.out]; rfl, (by rw [HNO.out]; intro zs h; cases h), hbn⟩
      | some z =>
        rw [hrd] at HP
        simp only [Option.getD_some, Option.isSome_some] at HP
        by_cases hz : 0 ≤ z ∧ z ≤ 9999999
        · have hyes := HNX.out i _ d _ HD.out HXA.out (rd_yes hrd hz)
          rw [Int.toNat_of_nonneg hz.1] at hyes
          have HYES := Lib.hid hyes
          have hin1 : inB z 0 9999999 = true := by simp [inB, hz.1, hz.2]
          clear hyes hrd hz
          go_wp2_with fail
          refine HP.out.mono ?_
          rintro e w1 ⟨rfl, hb1⟩
          have HB1 := Lib.hid (HB.out.by hb1)
          have hs1 := hb1.size
          have hbn : Below w.heap.size w w1 := below_on hb1 hb
          clear hb1 HB hlp p1 hb
          go_wp2_with fail
          refine (within_any _ _ _ _).mono ?_
          rintro e w' ⟨rfl, rfl⟩
          rw [hin1]
          clear hin1
          go_wp2_with (refine list_pushI (by rfl) _ _ (by rfl) w.heap.size hi (.slice a3 i c3) d [z] (by rfl) (HB1.out.by (by ((repeat (first | (with_reducible exact Below.refl _ _) | (with_reducible refine below_drewN ?_ _) | (with_reducible refine Below.drew ?_) | (with_reducible refine below_al ?_ _) | (with_reducible refine below_on (by assumption) ?_) | ((with_reducible refine Below.setCell ?_ ?_ _); rotate_left; focus (first | omega | (simp; done) | (simp; omega))) | (with_reducible assumption))); done))) w1.heap.size 1 #[.int .i64 z] (by rfl) (by rfl) (by omega) (Blk.new _ rfl) (by rfl) (by omega) (by rw [HDL.out]; omega) ?_; intro a5 c5 w5 hB5 hw5; have HB5 := Lib.hid hB5; rw [HDL.out]; clear hB5)
          have hsz := hw5.size
          simp only [World.size_alloc] at hsz
          refine ⟨⟨i + 1, w5.heap.size, d ++ [z], by go_num, by have := HLT.out; omega, HYES, Lib.hid (by simp [HDL.out]), Lib.hid ?_, by omega, hw5.below (below_al hbn _) (by omega)⟩, by have := HLT.out; simp [intOf]; omega⟩
          have := HB5.out
          rw [HDL.out] at this
          exact this
        · have HNO := Lib.hid (HNS.out i _ HXA.out (rd_out hrd hz))
          have hin1 : inB z 0 9999999 = false := by
            cases h : inB z 0 9999999 with
            | false => rfl
            | true => exact absurd (inB_iff.1 h) hz
          clear hrd hz
          go_wp2_with fail
          refine HP.out.mono ?_
          rintro e w1 ⟨rfl, hb1⟩
          have hbn : Below w.heap.size w w1 := below_on hb1 hb
          clear hlp p1 hb1 hb
          go_wp2_with fail
          refine (within_any _ _ _ _).mono ?_
          rintro e w' ⟨rfl, rfl⟩
          rw [hin1]
          clear hin1
          go_wp2
          refine bodyPost_ret (v := .tuple #[.slice none 0 0, .bool false]) (by simp [results, Tryd.results69, go_sem, *]) rfl ⟨_, by rw [HNO.out]; rfl, (by rw [HNO.out]; intro zs h; cases h), hbn⟩
    · obtain rfl : i = n := by omega
      have hd := HD.out
      rw [HTK.out] at hd
      have i1 : ¬ (i : Int) < (i : Int) := by omega
      have HB2 := Lib.hid (show BldI wr w.heap.size wr.heap.size (.slice a3 i c3) d from ⟨Nat.le_refl _, HB.out.2.1, fun g hg => by have := HB.out.2.2 g hg; omega⟩)
      have HDD := Lib.hid hd
      clear hd HB
      go_wp2
      refine bodyPost_ret (v := .tuple #[.slice a3 i c3, .bool ((i : Int) == cnt)]) (by simp [results, Tryd.results69, go_sem, *]) rfl ⟨_, by rw [HDD.out, cntB, HDL.out], (by rw [HDD.out]; intro zs h; cases h; exact HB2.out), hb⟩
end Go.Proofs.YtglddnkpccgchaaDoor
