/- Whether a list is a permutation of 0 .. n-1: the reference's way. -/
import Derived.Test.YtlkcdelihdkgbaaGreatIntB
import Derived.Test.YtlkcdelihdkgbaaGreatOrdB
import Derived.Test.YtlkcdelihdkgbaaGreatValid1
namespace Go.Proofs.YtlkcdelihdkgbaaGreat
open Go.RowKit
set_option linter.unusedVariables false
set_option linter.unusedSimpArgs false

theorem infoBo : (Tryz.prog.info? 4).map (fun i => (i.zero, i.size, i.bytes)) = some (some (.bool false), 1, 1) := by kernel_rfl
/-- make([]bool, n). -/
theorem make_bools (n : Nat) (hn : n ≤ 1048576) (w : World) : ∃ cs : Array Value, cs.size = n ∧ (∀ i, i < n → cs[i]? = some (Value.bool false)) ∧ (Instr.makeSlice 80 (.int .i64 n) (.int .i64 n)).run Tryz.prog w = .ok (.slice (some ⟨w.heap.size, 0, none⟩) n n) (w.alloc (.cells cs 4)) := by
  obtain ⟨i0, hi, hz0, hz1, hz2⟩ := info_parts infoBo
  have h := run_make (P := Tryz.prog) w 80 4 i0 _ Tryz.underlying80 hi hz0 .i64 .i64 (n : Int) (n : Int) (by omega) (by omega) (by rw [hz2]; omega) (by omega)
  simp only [Int.toNat_natCast, hz1, Nat.mul_one] at h
  refine ⟨_, size_madeCells _ _, fun i hi => ?_, h⟩
  simp [madeCells, hi, Value.cells, Nat.mod_one]

set_option maxRecDepth 100000 in
set_option maxHeartbeats 4000000 in
theorem specPerm_any (sv : Value) (zs : List Int) (m : Nat) (w : World) (h : IntSl w sv zs) (hl : zs.length ≤ 1048576) (hm : m ≤ 1048576) :
    Calls Tryz.prog 25 #[sv, .int .i64 (m : Int)] w fun e w' => e = .returned (.bool (permB zs m)) ∧ Below w.heap.size w w' := by
  obtain ⟨cs0, hcs0, hcz, hmk⟩ := make_bools m hm w
  have H := Lib.hid h
  have HOUT := Lib.hid (fun z h1 h2 => permB_out (zs := zs) (n := (m : Int)) (z := z) h1 h2)
  have HDUP := Lib.hid (fun z i j h1 h2 h3 => permB_dup (zs := zs) (n := (m : Int)) (z := z) (i := i) (j := j) h1 h2 h3)
  have HALL := Lib.hid (permB_all (zs := zs) (n := (m : Int)))
  have HTK := Lib.hid (fun k x hx => take_snoc_of zs k x hx)
  have HZ0 := Lib.hid hcz
  obtain ⟨a, c, rfl⟩ := h.len
  generalize permB zs (m : Int) = r at *
  clear h hcz
  go_enter Tryz.func25, Tryz.ntmps25
  go_wp2
  clear hmk
  go_loopw [6] (fun i wr => ∃ k : Nat, k ≤ zs.length ∧ i = .int .i64 k ∧ (∃ cs : Array Value, Blk wr w.heap.size cs 4 ∧ cs.size = m ∧ Hid (∀ q : Nat, q < m → cs[q]? = some (.bool ((zs.take k).contains (q : Int))))) ∧
    Hid ((∀ z ∈ zs.take k, 0 ≤ z ∧ z < m) ∧ ∀ (i j : Nat) z, i < j → j < k → zs[i]? = some z → zs[j]? = some z → False) ∧ Below w.heap.size w wr) (fun i _ => zs.length - (intOf i).toNat)
  case atStart => exact ⟨0, Nat.zero_le _, rfl, ⟨cs0, (by ((repeat (first | (with_reducible assumption) | (with_reducible refine Blk.drewN ?_ _) | (with_reducible refine Blk.drew ?_) | ((with_reducible refine Blk.new _ ?_); focus (first | omega | (simp; done) | (simp; omega))) | (with_reducible refine Blk.past ?_ _) | ((with_reducible refine Blk.apart ?_ _ _ _ ?_); rotate_left; focus (first | omega | (simp; done) | (simp; omega))) | (with_reducible refine Blk.by (by assumption) ?_))); done)), hcs0, Lib.hid (fun q hq => by simpa using HZ0.out q hq)⟩, Lib.hid ⟨by simp, by intro i j z h1 h2; omega⟩, (by ((repeat (first | (with_reducible exact Below.refl _ _) | (with_reducible refine below_drewN ?_ _) | (with_reducible refine Below.drew ?_) | (with_reducible refine below_al ?_ _) | (with_reducible refine below_on (by assumption) ?_) | ((with_reducible refine Below.setCell ?_ ?_ _); rotate_left; focus (first | omega | (simp; done) | (simp; omega))) | (with_reducible assumption))); done))⟩
  case round =>
    obtain ⟨k, hk, rfl, ⟨cs, hB, hsz, HC⟩, HK, hb⟩ := hrel
    by_cases hlt : k < zs.length
    · obtain ⟨z, hz⟩ : ∃ z, zs[k]? = some z := ⟨zs[k], List.getElem?_eq_getElem hlt⟩
      rcases H.out with ⟨_, _, _, h2⟩ | ⟨b, off, cap, he, h2, h3, h4⟩
      · rw [h2] at hlt; simp at hlt
      obtain ⟨rfl, rfl⟩ : a = some ⟨b, off, none⟩ ∧ c = cap := by simpa using he
      have c1 := cell_by' hb (h4 k z hz)
      have HZ := Lib.hid hz
      have HS := Lib.hid hsz
      clear hz h4 he h2 h3 hcs0
      have i1 : (0 : Int) ≤ (k : Int) := by omega
      have i2 : (k : Int) < (zs.length : Int) := by omega
      by_cases hin : 0 ≤ z ∧ z < m
      · obtain ⟨q, rfl⟩ : ∃ q : Nat, z = q := ⟨z.toNat, by omega⟩
        have hq : q < m := by omega
        have hinB : inB (q : Int) 0 ((m : Int) - 1) = true := inB_iff.2 (by omega)
        obtain ⟨bb, hbb⟩ : ∃ bb, (zs.take k).contains (q : Int) = bb := ⟨_, rfl⟩
        have d0 := HC.out q hq
        rw [hbb] at d0
        have hBc := hB.cell
        have hBf := hB.free
        have HQS := Lib.hid (show q < cs.size by omega)
        have HBB := Lib.hid hbb
        clear hsz hin hbb
        cases bb with
        | true =>
          go_wp2_with (go_at_call 47; refine (l16In_any _ _ _ _).mono ?_; rintro e w' ⟨rfl, rfl⟩)
          go_ret
          have hmem : (q : Int) ∈ zs.take k := by have := HBB.out; simpa using this
          obtain ⟨j, hj, e⟩ := List.mem_iff_getElem.1 hmem
          have hjk : j < k := by simp at hj; omega
          have hj2 : zs[j]? = some (q : Int) := by
            have : (zs.take k)[j]? = some (q : Int) := by rw [List.getElem?_eq_getElem hj, e]
            rwa [List.getElem?_take_of_lt hjk] at this
          exact ⟨ret_bool (HDUP.out _ j k hjk hj2 HZ.out).symm, hb⟩
        | false =>
          go_wp2_with (go_at_call 47; refine (l16In_any _ _ _ _).mono ?_; rintro e w' ⟨rfl, rfl⟩)
          refine ⟨⟨k + 1, by omega, by go_num, ⟨cs.setIfInBounds q (.bool true), hB.set _ _, by simp [HS.out], Lib.hid (fun p hp => ?_)⟩, Lib.hid ⟨fun z hz => ?_, fun i j z h1 h2 h3 h4 => ?_⟩, (by ((repeat (first | (with_reducible exact Below.refl _ _) | (with_reducible refine below_drewN ?_ _) | (with_reducible refine Below.drew ?_) | (with_reducible refine below_al ?_ _) | (with_reducible refine below_on (by assumption) ?_) | ((with_reducible refine Below.setCell ?_ ?_ _); rotate_left; focus (first | omega | (simp; done) | (simp; omega))) | (with_reducible assumption))); done))⟩, by simp [intOf]; omega⟩
          · rw [Array.getElem?_setIfInBounds, HTK.out k q HZ.out]
            by_cases e : q = p
            · subst e; rw [if_pos rfl, if_pos HQS.out]; simp
            · rw [if_neg e, HC.out p hp]
              congr 2
              rw [Bool.eq_iff_iff]
              simp
              intro e'; omega
          · rw [HTK.out k q HZ.out] at hz
            rcases List.mem_append.1 hz with hz | hz
            · exact HK.out.1 z hz
            · simp at hz; subst hz; omega
          · by_cases e : j = k
            · subst e
              have := HZ.out
              rw [h4] at this
              cases this
              have hm : (q : Int) ∈ zs.take j := by
                refine List.mem_iff_getElem?.2 ⟨i, ?_⟩
                rw [List.getElem?_take_of_lt h1]; exact h3
              have hbb := HBB.out
              rw [show (zs.take j).contains (q : Int) = true by simpa using hm] at hbb
              cases hbb
            · exact HK.out.2 i j z h1 (by omega) h3 h4
      · have hinB : inB z 0 ((m : Int) - 1) = false := by
          cases e : inB z 0 ((m : Int) - 1) with
          | false => rfl
          | true => exact absurd (inB_iff.1 e) (by omega)
        have HIN := Lib.hid hin
        clear hin
        go_wp2_with (go_at_call 47; refine (l16In_any _ _ _ _).mono ?_; rintro e w' ⟨rfl, rfl⟩)
        go_ret
        exact ⟨ret_bool (HOUT.out z (List.mem_of_getElem? HZ.out) HIN.out).symm, hb⟩
    · obtain rfl : k = zs.length := by omega
      have hk := HK.out
      rw [List.take_length] at hk
      have HR := Lib.hid (HALL.out hk.1 (fun i j z h1 h3 h4 => hk.2 i j z h1 (List.getElem?_eq_some_iff.1 h4).1 h3 h4))
      clear hk
      go_wp2
      go_ret
      exact ⟨ret_bool HR.out.symm, hb⟩
end Go.Proofs.YtlkcdelihdkgbaaGreat
