/- The reference's l30Inverse. -/
import Derived.Test.YtlkcdelihdkgbaaGreatOrdB
import Derived.Test.YtlkcdelihdkgbaaGreatIntB
namespace Go.Proofs.YtlkcdelihdkgbaaGreat
open Go.RowKit
set_option linter.unusedVariables false
set_option linter.unusedSimpArgs false

set_option maxRecDepth 100000 in
set_option maxHeartbeats 2000000 in
theorem specInv_any (sv : Value) (zs : List Int) (w : World) (h : IntSl w sv zs) (hl : zs.length ≤ 1048576) (hp : permB zs zs.length = true) :
    Calls Tryz.prog 27 #[sv] w fun e w' => ∃ v, e = .returned v ∧ OwnR w' w.heap.size w'.heap.size v (invS zs) ∧ Below w.heap.size w w' := by
  obtain ⟨cs0, hcs0, hcz, hmk⟩ := make_ints zs.length hl w
  have H := Lib.hid h
  have HIN := Lib.hid (permB_iff.1 hp).2.2
  have HI0 : ICs cs0 (invTo zs 0) := by
    intro i z hz
    have hi : i < zs.length := by have := (List.getElem?_eq_some_iff.1 hz).1; rwa [length_invTo] at this
    simp [invTo, hi] at hz
    subst hz
    exact hcz i hi
  have HI := Lib.hid HI0
  have HST := Lib.hid (invTo_step zs)
  have HLI := Lib.hid (length_invTo zs)
  obtain ⟨a, c, rfl⟩ := h.len
  clear h hp hcz HI0
  go_enter Tryz.func27, Tryz.ntmps27
  go_wp2
  clear hmk
  go_loopw [4] (fun i wr => ∃ k : Nat, k ≤ zs.length ∧ i = .int .i64 k ∧ (∃ cs : Array Value, Blk wr w.heap.size cs 2 ∧ cs.size = zs.length ∧ Hid (ICs cs (invTo zs k))) ∧ Below w.heap.size w wr) (fun i _ => zs.length - (intOf i).toNat)
  case atStart => exact ⟨0, Nat.zero_le _, rfl, ⟨cs0, (by ((repeat (first | (with_reducible assumption) | (with_reducible refine Blk.drewN ?_ _) | (with_reducible refine Blk.drew ?_) | ((with_reducible refine Blk.new _ ?_); focus (first | omega | (simp; done) | (simp; omega))) | (with_reducible refine Blk.past ?_ _) | ((with_reducible refine Blk.apart ?_ _ _ _ ?_); rotate_left; focus (first | omega | (simp; done) | (simp; omega))) | (with_reducible refine Blk.by (by assumption) ?_))); done)), hcs0, HI⟩, (by ((repeat (first | (with_reducible exact Below.refl _ _) | (with_reducible refine below_drewN ?_ _) | (with_reducible refine Below.drew ?_) | (with_reducible refine below_al ?_ _) | (with_reducible refine below_on (by assumption) ?_) | ((with_reducible refine Below.setCell ?_ ?_ _); rotate_left; focus (first | omega | (simp; done) | (simp; omega))) | (with_reducible assumption))); done))⟩
  case round =>
    obtain ⟨k, hk, rfl, ⟨cs, hB, hsz, hIC⟩, hb⟩ := hrel
    by_cases hlt : k < zs.length
    · obtain ⟨z, hz⟩ : ∃ z, zs[k]? = some z := ⟨zs[k], List.getElem?_eq_getElem hlt⟩
      obtain ⟨hz0, hz1⟩ := HIN.out z (List.mem_of_getElem? hz)
      obtain ⟨q, rfl⟩ : ∃ q : Nat, z = q := ⟨z.toNat, by omega⟩
      rcases H.out with ⟨_, _, _, h2⟩ | ⟨b, off, cap, he, h2, h3, h4⟩
      · rw [h2] at hlt; simp at hlt
      obtain ⟨rfl, rfl⟩ : a = some ⟨b, off, none⟩ ∧ c = cap := by simpa using he
      have c1 := cell_by' hb (h4 k q hz)
      have hin : q < cs.size := by omega
      obtain ⟨u0_, d0⟩ : ∃ u, cs[q]? = some u := ⟨_, Array.getElem?_eq_getElem hin⟩
      have HSZ := Lib.hid hsz
      have HZ := Lib.hid hz
      clear hsz hz h4 he hcs0
      have hBc := hB.cell
      have hBf := hB.free
      have i1 : (0 : Int) ≤ (k : Int) := by omega
      have i2 : (k : Int) < (zs.length : Int) := by omega
      go_wp2
      refine ⟨⟨k + 1, by omega, by go_num, ⟨cs.setIfInBounds q (.int .i64 k), hB.set _ _, by simp [HSZ.out], Lib.hid ?_⟩, (by ((repeat (first | (with_reducible exact Below.refl _ _) | (with_reducible refine below_drewN ?_ _) | (with_reducible refine Below.drew ?_) | (with_reducible refine below_al ?_ _) | (with_reducible refine below_on (by assumption) ?_) | ((with_reducible refine Below.setCell ?_ ?_ _); rotate_left; focus (first | omega | (simp; done) | (simp; omega))) | (with_reducible assumption))); done))⟩, by simp [intOf]; omega⟩
      have hst := HST.out k q HZ.out
      rw [Int.toNat_natCast] at hst
      rw [hst]
      exact hIC.out.set q k
    · obtain rfl : k = zs.length := by omega
      go_wp2
      go_ret
      have hIC' : ICs cs (invS zs) := hIC.out
      have hlb := hB.lt
      have hl2 := HLI.out zs.length
      exact ⟨.slice (some ⟨w.heap.size, 0, none⟩) zs.length zs.length, rfl, .inr ⟨w.heap.size, zs.length, cs, by rw [length_invS], Nat.le_refl _, hlb, by rw [length_invS]; exact Nat.le_refl _, by unfold maxLen; omega, hB, hIC'⟩, hb⟩


end Go.Proofs.YtlkcdelihdkgbaaGreat
