/- toPortS and eqPortS: the walks. -/
import Derived.Test.YthcaipohdeigeaaToPortS
namespace Go.Proofs.Ythcaipohdeigeaa
open Go.RowKit
set_option linter.unusedVariables false
set_option linter.unusedSimpArgs false

set_option maxRecDepth 100000 in
set_option maxHeartbeats 2000000 in
theorem toPortS_any (sv : Value) (xs : List Pt) (w : World) (h : PtSl w sv xs) (hn : xs.length ≤ 1048576) :
    Calls Try.prog 72 #[sv] w fun e w' => ∃ g, e = .returned (.slice (some ⟨g, 0, none⟩) xs.length xs.length) ∧ PtBlk w' g xs ∧ w.heap.size ≤ g ∧ Below w.heap.size w w' := by
  rcases h with ⟨a, c, rfl, rfl⟩ | ⟨b, off, cap, rfl, h2, h3, h4⟩
  · obtain ⟨cs, hcs, hmk⟩ := make_pt 0 (by omega) w
    simp only [Int.natCast_zero] at hmk
    go_enter Try.func72, Try.ntmps72
    go_wp2
    go_loopw [4] (fun i wr => i = .int .i64 0 ∧ Blk wr w.heap.size cs 79 ∧ Below w.heap.size w wr) (fun _ _ => 0)
    case atStart => exact ⟨rfl, (by ((repeat (first | (with_reducible assumption) | (with_reducible refine Blk.drewN ?_ _) | (with_reducible refine Blk.drew ?_) | ((with_reducible refine Blk.new _ ?_); focus (first | omega | (simp; done) | (simp; omega))) | (with_reducible refine Blk.past ?_ _) | ((with_reducible refine Blk.apart ?_ _ _ _ ?_); rotate_left; focus (first | omega | (simp; done) | (simp; omega))) | (with_reducible refine Blk.by (by assumption) ?_))); done)), (by ((repeat (first | (with_reducible exact Below.refl _ _) | (with_reducible refine below_drewN ?_ _) | (with_reducible refine Below.drew ?_) | (with_reducible refine below_al ?_ _) | (with_reducible refine below_on (by assumption) ?_) | ((with_reducible refine Below.setCell ?_ ?_ _); rotate_left; focus (first | omega | (simp; done) | (simp; omega))) | (with_reducible assumption))); done))⟩
    case round =>
      obtain ⟨rfl, hx, hb⟩ := hrel
      go_wp2
      go_ret
      exact ⟨w.heap.size, rfl, ⟨cs, hx, hcs, by simp⟩, Nat.le_refl _, hb⟩
  · obtain ⟨cs0, hcs0, hmk⟩ := make_pt xs.length hn w
    unfold maxLen at h3
    go_enter Try.func72, Try.ntmps72
    go_wp2
    clear hmk
    go_loopw [4] (fun i wr => ∃ k : Nat, k ≤ xs.length ∧ i = .int .i64 k ∧ (∃ cs : Array Value, Blk wr w.heap.size cs 79 ∧ cs.size = xs.length * 2 ∧ ∀ j y, j < k → xs[j]? = some y → Cs2 cs j (.string y.name) (.int .i64 y.net)) ∧ Below w.heap.size w wr) (fun i _ => xs.length - (intOf i).toNat)
    case atStart => exact ⟨0, Nat.zero_le _, rfl, ⟨cs0, (by ((repeat (first | (with_reducible assumption) | (with_reducible refine Blk.drewN ?_ _) | (with_reducible refine Blk.drew ?_) | ((with_reducible refine Blk.new _ ?_); focus (first | omega | (simp; done) | (simp; omega))) | (with_reducible refine Blk.past ?_ _) | ((with_reducible refine Blk.apart ?_ _ _ _ ?_); rotate_left; focus (first | omega | (simp; done) | (simp; omega))) | (with_reducible refine Blk.by (by assumption) ?_))); done)), hcs0, by intro j y hj; omega⟩, (by ((repeat (first | (with_reducible exact Below.refl _ _) | (with_reducible refine below_drewN ?_ _) | (with_reducible refine Below.drew ?_) | (with_reducible refine below_al ?_ _) | (with_reducible refine below_on (by assumption) ?_) | ((with_reducible refine Below.setCell ?_ ?_ _); rotate_left; focus (first | omega | (simp; done) | (simp; omega))) | (with_reducible assumption))); done))⟩
    case round =>
      obtain ⟨k, hk, rfl, ⟨cs, hB, hsz, hold⟩, hb⟩ := hrel
      by_cases hlt : k < xs.length
      · obtain ⟨x, hx⟩ : ∃ x, xs[k]? = some x := ⟨xs[k], List.getElem?_eq_getElem hlt⟩
        obtain ⟨c1, c2⟩ := (h4 k x hx).by hb
        have HS := Lib.hid hsz
        have HO := Lib.hid hold
        have HX := Lib.hid hx
        have hin : k * 2 + 2 ≤ cs.size := by omega
        obtain ⟨u0_, d0⟩ : ∃ u, cs[k * 2]? = some u := ⟨_, Array.getElem?_eq_getElem (by omega)⟩
        obtain ⟨u1_, d1⟩ : ∃ u, cs[k * 2 + 1]? = some u := ⟨_, Array.getElem?_eq_getElem (by omega)⟩
        clear hsz hold hx h4 hcs0
        go_wp2_with fail
        refine (toPort_any x.name x.net _).mono ?_
        rintro e w1 ⟨rfl, hb1⟩
        replace hB := Blk.by hb1 hB
        have hBc := hB.cell
        have hBf := hB.free
        go_wp2
        refine ⟨⟨k + 1, by omega, by go_num, ⟨put2 cs k (.string x.name) (.int .i64 x.net), (hB.set _ _).set _ _, by rw [size_put2]; exact HS.out, ?_⟩, (by ((repeat (first | (with_reducible exact Below.refl _ _) | (with_reducible refine below_drewN ?_ _) | (with_reducible refine Below.drew ?_) | (with_reducible refine below_al ?_ _) | (with_reducible refine below_on (by assumption) ?_) | ((with_reducible refine Below.setCell ?_ ?_ _); rotate_left; focus (first | omega | (simp; done) | (simp; omega))) | (with_reducible assumption))); done))⟩, by simp [intOf]; omega⟩
        intro j y hj hy
        by_cases hjk : j = k
        · subst hjk
          have hxy := HX.out
          obtain rfl : y = x := Option.some.inj (hy.symm.trans hxy)
          exact put2_same cs j _ _ hin
        · exact put2_other cs k j _ _ _ _ hjk (HO.out j y (by omega) hy)
      · go_wp2
        go_ret
        refine ⟨w.heap.size, rfl, ⟨cs, hB, hsz, fun i x hx => hold i x ?_ hx⟩, Nat.le_refl _, hb⟩
        have := (List.getElem?_eq_some_iff.1 hx).1
        omega

set_option maxRecDepth 100000 in
set_option maxHeartbeats 2000000 in
theorem eqPortS_refl (s1 s2 : Value) (xs : List Pt) (w : World) (h : PtSl w s1 xs) (h' : PtSl w s2 xs) :
    Calls Try.prog 79 #[s1, s2] w fun e w' => e = .returned (.bool true) ∧ Below w.heap.size w w' := by
  by_cases h0 : xs = []
  · subst h0
    obtain ⟨a, c, rfl⟩ := h.sized
    obtain ⟨a', c', rfl⟩ := h'.sized
    go_enter Try.func79, Try.ntmps79
    go_wp2
    go_loopw [5] (fun i wr => i = .int .i64 0 ∧ Below w.heap.size w wr) (fun _ _ => 0)
    case atStart => exact ⟨rfl, (by ((repeat (first | (with_reducible exact Below.refl _ _) | (with_reducible refine below_drewN ?_ _) | (with_reducible refine Below.drew ?_) | (with_reducible refine below_al ?_ _) | (with_reducible refine below_on (by assumption) ?_) | ((with_reducible refine Below.setCell ?_ ?_ _); rotate_left; focus (first | omega | (simp; done) | (simp; omega))) | (with_reducible assumption))); done))⟩
    case round =>
      obtain ⟨rfl, hb⟩ := hrel
      go_wp2
      go_ret
      exact ⟨rfl, hb⟩
  · rcases h with ⟨_, _, _, h2⟩ | ⟨b, off, cap, rfl, h2, h3, h4⟩
    · exact absurd h2 h0
    rcases h' with ⟨_, _, _, h2'⟩ | ⟨b', off', cap', rfl, h2', h3', h4'⟩
    · exact absurd h2' h0
    clear h0
    unfold maxLen at h3 h3'
    go_enter Try.func79, Try.ntmps79
    go_wp2
    go_loopw [5] (fun i wr => ∃ k : Nat, k ≤ xs.length ∧ i = .int .i64 k ∧ Below w.heap.size w wr) (fun i _ => xs.length - (intOf i).toNat)
    case atStart => exact ⟨0, Nat.zero_le _, rfl, (by ((repeat (first | (with_reducible exact Below.refl _ _) | (with_reducible refine below_drewN ?_ _) | (with_reducible refine Below.drew ?_) | (with_reducible refine below_al ?_ _) | (with_reducible refine below_on (by assumption) ?_) | ((with_reducible refine Below.setCell ?_ ?_ _); rotate_left; focus (first | omega | (simp; done) | (simp; omega))) | (with_reducible assumption))); done))⟩
    case round =>
      obtain ⟨k, hk, rfl, hb⟩ := hrel
      by_cases hlt : k < xs.length
      · obtain ⟨x, hx⟩ : ∃ x, xs[k]? = some x := ⟨xs[k], List.getElem?_eq_getElem hlt⟩
        obtain ⟨c1, c2⟩ := (h4 k x hx).by hb
        obtain ⟨d1, d2⟩ := (h4' k x hx).by hb
        clear h4 h4' hx
        have i1 : (0 : Int) ≤ (k : Int) := by omega
        have i2 : (k : Int) < (xs.length : Int) := by omega
        go_wp2_with fail
        go_region_held3 (fun w' => (w'.cell? ⟨b, off + k * 2, none⟩ = some (.string x.name) ∧ w'.cell? ⟨b, off + k * 2 + 1, none⟩ = some (.int .i64 x.net)) ∧ (w'.cell? ⟨b', off' + k * 2, none⟩ = some (.string x.name) ∧ w'.cell? ⟨b', off' + k * 2 + 1, none⟩ = some (.int .i64 x.net)) ∧ Below w.heap.size w w')
          (first | exact ⟨⟨c1, c2⟩, ⟨d1, d2⟩, hb.drew⟩ | exact ⟨⟨cell_by' hb1 c1, cell_by' hb1 c2⟩, ⟨cell_by' hb1 d1, cell_by' hb1 d2⟩, below_on hb1 hb.drew⟩)
          (first | (go_at_call 116; refine (eqPort_refl x.name x.net _).mono ?_; rintro e w1 ⟨rfl, hb1⟩))
        go_wp2
        exact ⟨⟨k + 1, by omega, by go_num, below_on hb1 hb.drew⟩, by simp [intOf]; omega⟩
      · go_wp2
        go_ret
        exact ⟨rfl, hb⟩
end Go.Proofs.Ythcaipohdeigeaa
