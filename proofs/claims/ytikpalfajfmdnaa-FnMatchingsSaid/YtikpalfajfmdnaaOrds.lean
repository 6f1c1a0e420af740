/- Inverses of permutations and one permutation behind another: the program's and the reference's. -/
import Derived.Test.YtikpalfajfmdnaaOrdB
import Derived.Test.YtikpalfajfmdnaaIntB
namespace Go.Proofs.Ytikpalfajfmdnaa
open Go.RowKit
set_option linter.unusedVariables false
set_option linter.unusedSimpArgs false

set_option maxRecDepth 100000 in
set_option maxHeartbeats 2000000 in
theorem specInv_any (sv : Value) (zs : List Int) (w : World) (h : IntSl w sv zs) (hl : zs.length ≤ 1048576) (hp : permB zs zs.length = true) :
    Calls Try.prog 16 #[sv] w fun e w' => ∃ v, e = .returned v ∧ OwnR w' w.heap.size w'.heap.size v (invS zs) ∧ Below w.heap.size w w' := by
  obtain ⟨cs0, hcs0, hcz, hmk⟩ := make_ints zs.length hl w
  have H := Lib.hid h
  have HIN := Lib.hid (permB_iff.1 hp).2.2
  have HI0 : ICs cs0 (invTo zs 0) := by
    intro i z hz
    have hi : i < zs.length := by have := (List.getElem?_eq_some_iff.1 hz).1; rwa [length_invTo] at this
    simp [invTo, hi] at hz
    subst hz
    exact hcz i hi
  have HI := Lib.hid HI0
  have HST := Lib.hid (invTo_step zs)
  have HLI := Lib.hid (length_invTo zs)
  obtain ⟨a, c, rfl⟩ := h.len
  clear h hp hcz HI0
  go_enter Try.func16, Try.ntmps16
  go_wp2
  clear hmk
  go_loopw [4] (fun i wr => ∃ k : Nat, k ≤ zs.length ∧ i = .int .i64 k ∧ (∃ cs : Array Value, Blk wr w.heap.size cs 2 ∧ cs.size = zs.length ∧ Hid (ICs cs (invTo zs k))) ∧ Below w.heap.size w wr) (fun i _ => zs.length - (intOf i).toNat)
  case atStart => exact ⟨0, Nat.zero_le _, rfl, ⟨cs0, (by ((repeat (first | (with_reducible assumption) | (with_reducible refine Blk.drewN ?_ _) | (with_reducible refine Blk.drew ?_) | ((with_reducible refine Blk.new _ ?_); focus (first | omega | (simp; done) | (simp; omega))) | (with_reducible refine Blk.past ?_ _) | ((with_reducible refine Blk.apart ?_ _ _ _ ?_); rotate_left; focus (first | omega | (simp; done) | (simp; omega))) | (with_reducible refine Blk.by (by assumption) ?_))); done)), hcs0, HI⟩, (by ((repeat (first | (with_reducible exact Below.refl _ _) | (with_reducible refine below_drewN ?_ _) | (with_reducible refine Below.drew ?_) | (with_reducible refine below_al ?_ _) | (with_reducible refine below_on (by assumption) ?_) | ((with_reducible refine Below.setCell ?_ ?_ _); rotate_left; focus (first | omega | (simp; done) | (simp; omega))) | (with_reducible assumption))); done))⟩
  case round =>
    obtain ⟨k, hk, rfl, ⟨cs, hB, hsz, hIC⟩, hb⟩ := hrel
    by_cases hlt : k < zs.length
    · obtain ⟨z, hz⟩ : ∃ z, zs[k]? = some z := ⟨zs[k], List.getElem?_eq_getElem hlt⟩
      obtain ⟨hz0, hz1⟩ := HIN.out z (List.mem_of_getElem? hz)
      obtain ⟨q, rfl⟩ : ∃ q : Nat, z = q := ⟨z.toNat, by omega⟩
      rcases H.out with ⟨_, _, _, h2⟩ | ⟨b, off, cap, he, h2, h3, h4⟩
      · rw [h2] at hlt; simp at hlt
      obtain ⟨rfl, rfl⟩ : a = some ⟨b, off, none⟩ ∧ c = cap := by simpa using he
      have c1 := cell_by' hb (h4 k q hz)
      have hin : q < cs.size := by omega
      obtain ⟨u0_, d0⟩ : ∃ u, cs[q]? = some u := ⟨_, Array.getElem?_eq_getElem hin⟩
      have HSZ := Lib.hid hsz
      have HZ := Lib.hid hz
      clear hsz hz h4 he hcs0
      have hBc := hB.cell
      have hBf := hB.free
      have i1 : (0 : Int) ≤ (k : Int) := by omega
      have i2 : (k : Int) < (zs.length : Int) := by omega
      go_wp2
      refine ⟨⟨k + 1, by omega, by go_num, ⟨cs.setIfInBounds q (.int .i64 k), hB.set _ _, by simp [HSZ.out], Lib.hid ?_⟩, (by ((repeat (first | (with_reducible exact Below.refl _ _) | (with_reducible refine below_drewN ?_ _) | (with_reducible refine Below.drew ?_) | (with_reducible refine below_al ?_ _) | (with_reducible refine below_on (by assumption) ?_) | ((with_reducible refine Below.setCell ?_ ?_ _); rotate_left; focus (first | omega | (simp; done) | (simp; omega))) | (with_reducible assumption))); done))⟩, by simp [intOf]; omega⟩
      have hst := HST.out k q HZ.out
      rw [Int.toNat_natCast] at hst
      rw [hst]
      exact hIC.out.set q k
    · obtain rfl : k = zs.length := by omega
      go_wp2
      go_ret
      have hIC' : ICs cs (invS zs) := hIC.out
      have hlb := hB.lt
      have hl2 := HLI.out zs.length
      exact ⟨.slice (some ⟨w.heap.size, 0, none⟩) zs.length zs.length, rfl, .inr ⟨w.heap.size, zs.length, cs, by rw [length_invS], Nat.le_refl _, hlb, by rw [length_invS]; exact Nat.le_refl _, by unfold maxLen; omega, hB, hIC'⟩, hb⟩

set_option maxRecDepth 100000 in
set_option maxHeartbeats 2000000 in
theorem implInv_any (sv : Value) (zs : List Int) (w : World) (h : IntSl w sv zs) (hl : zs.length ≤ 1048576) (hp : permB zs zs.length = true) :
    Calls Try.prog 14 #[sv] w fun e w' => ∃ v, e = .returned v ∧ OwnR w' w.heap.size w'.heap.size v (invS zs) ∧ Below w.heap.size w w' := by
  obtain ⟨cs0, hcs0, hcz, hmk⟩ := make_ints zs.length hl w
  have H := Lib.hid h
  have HIN := Lib.hid (permB_iff.1 hp).2.2
  have HI0 : ICs cs0 (invTo zs 0) := by
    intro i z hz
    have hi : i < zs.length := by have := (List.getElem?_eq_some_iff.1 hz).1; rwa [length_invTo] at this
    simp [invTo, hi] at hz
    subst hz
    exact hcz i hi
  have HI := Lib.hid HI0
  have HST := Lib.hid (invTo_step zs)
  have HLI := Lib.hid (length_invTo zs)
  obtain ⟨a, c, rfl⟩ := h.len
  clear h hp hcz HI0
  go_enter Try.func14, Try.ntmps14
  go_wp2
  clear hmk
  go_loopw [11] (fun i wr => ∃ k : Nat, k ≤ zs.length ∧ i = .int .i64 k ∧ (∃ cs : Array Value, Blk wr w.heap.size cs 2 ∧ cs.size = zs.length ∧ Hid (ICs cs (invTo zs k))) ∧ Below w.heap.size w wr) (fun i _ => zs.length - (intOf i).toNat)
  case atStart => exact ⟨0, Nat.zero_le _, rfl, ⟨cs0, (by ((repeat (first | (with_reducible assumption) | (with_reducible refine Blk.drewN ?_ _) | (with_reducible refine Blk.drew ?_) | ((with_reducible refine Blk.new _ ?_); focus (first | omega | (simp; done) | (simp; omega))) | (with_reducible refine Blk.past ?_ _) | ((with_reducible refine Blk.apart ?_ _ _ _ ?_); rotate_left; focus (first | omega | (simp; done) | (simp; omega))) | (with_reducible refine Blk.by (by assumption) ?_))); done)), hcs0, HI⟩, (by ((repeat (first | (with_reducible exact Below.refl _ _) | (with_reducible refine below_drewN ?_ _) | (with_reducible refine Below.drew ?_) | (with_reducible refine below_al ?_ _) | (with_reducible refine below_on (by assumption) ?_) | ((with_reducible refine Below.setCell ?_ ?_ _); rotate_left; focus (first | omega | (simp; done) | (simp; omega))) | (with_reducible assumption))); done))⟩
  case round =>
    obtain ⟨k, hk, rfl, ⟨cs, hB, hsz, hIC⟩, hb⟩ := hrel
    by_cases hlt : k < zs.length
    · obtain ⟨z, hz⟩ : ∃ z, zs[k]? = some z := ⟨zs[k], List.getElem?_eq_getElem hlt⟩
      obtain ⟨hz0, hz1⟩ := HIN.out z (List.mem_of_getElem? hz)
      obtain ⟨q, rfl⟩ : ∃ q : Nat, z = q := ⟨z.toNat, by omega⟩
      rcases H.out with ⟨_, _, _, h2⟩ | ⟨b, off, cap, he, h2, h3, h4⟩
      · rw [h2] at hlt; simp at hlt
      obtain ⟨rfl, rfl⟩ : a = some ⟨b, off, none⟩ ∧ c = cap := by simpa using he
      have c1 := cell_by' hb (h4 k q hz)
      have hin : q < cs.size := by omega
      obtain ⟨u0_, d0⟩ : ∃ u, cs[q]? = some u := ⟨_, Array.getElem?_eq_getElem hin⟩
      have HSZ := Lib.hid hsz
      have HZ := Lib.hid hz
      clear hsz hz h4 he hcs0
      have hBc := hB.cell
      have hBf := hB.free
      have i1 : (0 : Int) ≤ (k : Int) := by omega
      have i2 : (k : Int) < (zs.length : Int) := by omega
      go_wp2
      refine ⟨⟨k + 1, by omega, by go_num, ⟨cs.setIfInBounds q (.int .i64 k), hB.set _ _, by simp [HSZ.out], Lib.hid ?_⟩, (by ((repeat (first | (with_reducible exact Below.refl _ _) | (with_reducible refine below_drewN ?_ _) | (with_reducible refine Below.drew ?_) | (with_reducible refine below_al ?_ _) | (with_reducible refine below_on (by assumption) ?_) | ((with_reducible refine Below.setCell ?_ ?_ _); rotate_left; focus (first | omega | (simp; done) | (simp; omega))) | (with_reducible assumption))); done))⟩, by simp [intOf]; omega⟩
      have hst := HST.out k q HZ.out
      rw [Int.toNat_natCast] at hst
      rw [hst]
      exact hIC.out.set q k
    · obtain rfl : k = zs.length := by omega
      go_wp2
      go_ret
      have hIC' : ICs cs (invS zs) := hIC.out
      have hlb := hB.lt
      have hl2 := HLI.out zs.length
      exact ⟨.slice (some ⟨w.heap.size, 0, none⟩) zs.length zs.length, rfl, .inr ⟨w.heap.size, zs.length, cs, by rw [length_invS], Nat.le_refl _, hlb, by rw [length_invS]; exact Nat.le_refl _, by unfold maxLen; omega, hB, hIC'⟩, hb⟩

set_option maxRecDepth 100000 in
set_option maxHeartbeats 2000000 in
theorem implThru_any (sv sy : Value) (zs ys : List Int) (w : World) (h : IntSl w sv zs) (h' : IntSl w sy ys) (hl : zs.length ≤ 1048576) (hp : ∀ z ∈ zs, 0 ≤ z ∧ z < ys.length) :
    Calls Try.prog 17 #[sv, sy] w fun e w' => ∃ v, e = .returned v ∧ OwnR w' w.heap.size w'.heap.size v (thruS zs ys) ∧ Below w.heap.size w w' := by
  have H := Lib.hid h
  have H' := Lib.hid h'
  have HIN := Lib.hid hp
  have HTK := Lib.hid (fun k x hx => take_map_snoc (fun z : Int => ys.getD z.toNat 0) zs k x hx)
  obtain ⟨a, c, rfl⟩ := h.len
  obtain ⟨a', c', rfl⟩ := h'.len
  clear h h' hp
  go_enter Try.func17, Try.ntmps17
  go_wp2
  go_loopw [5, 11] (fun v i wr => ∃ (k hi : Nat), k ≤ zs.length ∧ i = .int .i64 k ∧ BldI wr w.heap.size hi v ((zs.take k).map fun z : Int => ys.getD z.toNat 0) ∧ w.heap.size ≤ hi ∧ Below w.heap.size w wr) (fun _ i _ => zs.length - (intOf i).toNat)
  case atStart =>
    refine ⟨0, w.heap.size + 1, Nat.zero_le _, rfl, ?_, by omega, (by ((repeat (first | (with_reducible exact Below.refl _ _) | (with_reducible refine below_drewN ?_ _) | (with_reducible refine Below.drew ?_) | (with_reducible refine below_al ?_ _) | (with_reducible refine below_on (by assumption) ?_) | ((with_reducible refine Below.setCell ?_ ?_ _); rotate_left; focus (first | omega | (simp; done) | (simp; omega))) | (with_reducible assumption))); done))⟩
    have hB : Blk (w.alloc (.cells #[] 2)) w.heap.size #[] 2 := Blk.new _ rfl
    exact BldI.lit (zs := []) hB rfl (by simp) (Nat.le_refl _) (by omega) (by simp)
  case round =>
    obtain ⟨k, hi, hk, rfl, hB, hhi, hb⟩ := hrel
    have hml : ((zs.take k).map fun z : Int => ys.getD z.toNat 0).length = k := by simp; omega
    by_cases hlt : k < zs.length
    · obtain ⟨z, hz⟩ : ∃ z, zs[k]? = some z := ⟨zs[k], List.getElem?_eq_getElem hlt⟩
      obtain ⟨hz0, hz1⟩ := HIN.out z (List.mem_of_getElem? hz)
      obtain ⟨q, rfl⟩ : ∃ q : Nat, z = q := ⟨z.toNat, by omega⟩
      rcases H.out with ⟨_, _, _, h2⟩ | ⟨b, off, cap, he, h2, h3, h4⟩
      · rw [h2] at hlt; simp at hlt
      obtain ⟨rfl, rfl⟩ : a = some ⟨b, off, none⟩ ∧ c = cap := by simpa using he
      rcases H'.out with ⟨_, _, _, g2⟩ | ⟨b', off', cap', he', g2, g3, g4⟩
      · rw [g2] at hz1; simp at hz1; omega
      obtain ⟨rfl, rfl⟩ : a' = some ⟨b', off', none⟩ ∧ c' = cap' := by simpa using he'
      have hq : q < ys.length := by omega
      have c1 := cell_by' hb (h4 k q hz)
      have c2 := cell_by' hb (g4 q ys[q] (List.getElem?_eq_getElem hq))
      have hst := HTK.out k q hz
      have hgd : ys.getD ((q : Int)).toNat 0 = ys[q] := by simp [hq]
      rw [hgd] at hst
      generalize ys[q] = y at *
      have HST := Lib.hid hst
      obtain ⟨av, cv, rfl⟩ := hB.sized
      have HB := Lib.hid hB
      have HML := Lib.hid hml
      rw [hml]
      clear hz h4 he g4 he' hst hgd hB hml
      have i1 : (0 : Int) ≤ (k : Int) := by omega
      have i2 : (k : Int) < (zs.length : Int) := by omega
      go_wp2_with (refine list_pushI (by rfl) _ _ (by rfl) w.heap.size hi _ _ [y] (by rw [HML.out]; rfl) (HB.out.by (by ((repeat (first | (with_reducible exact Below.refl _ _) | (with_reducible refine below_drewN ?_ _) | (with_reducible refine Below.drew ?_) | (with_reducible refine below_al ?_ _) | (with_reducible refine below_on (by assumption) ?_) | ((with_reducible refine Below.setCell ?_ ?_ _); rotate_left; focus (first | omega | (simp; done) | (simp; omega))) | (with_reducible assumption))); done))) wr.heap.size 1 #[.int .i64 y] (by rfl) (by rfl) (by omega) (Blk.new _ rfl) (by rfl) hhi (by rw [HML.out]; omega) ?_; intro a2 c2' w3 hB3 hw3; have HB3 := Lib.hid hB3; rw [HML.out]; clear hB3)
      have hsz := hw3.size
      simp only [World.size_alloc] at hsz
      have hle := hb.size
      refine ⟨⟨k + 1, w3.heap.size, by omega, by go_num, ?_, by omega, hw3.below (below_al hb _) (by omega)⟩, by simp [intOf]; omega⟩
      rw [HST.out]
      have := HB3.out
      rw [HML.out] at this
      exact this
    · obtain rfl : k = zs.length := by omega
      rw [List.take_length] at hB
      obtain ⟨av, cv, rfl⟩ := hB.sized
      have HB := Lib.hid hB
      have HML := Lib.hid hml
      clear hB hml
      go_wp2
      go_ret
      have hO := HB.out.own
      exact ⟨_, rfl, OwnR.wide' hO (Nat.le_refl _) HB.out.1, hb⟩
end Go.Proofs.Ytikpalfajfmdnaa
