/- Contracts of the functions of package laws over slices of resistors and networks. -/
import Derived.Test.YtljlcjficjefdaaRes
namespace Go.Proofs.Ytljlcjficjefdaa
open Go.RowKit
set_option linter.unusedVariables false
set_option linter.unusedSimpArgs false

theorem infoRes : (Try.prog.info? 49).map (fun i => (i.zero, i.size, i.bytes)) = some (some (.agg #[.int .i64 0, .int .i64 0, .int .i64 0, .int .i64 0]), 4, 32) := by kernel_rfl

/-- make([]impl.Resistor, n): a new block of four times n cells. -/
theorem make_res (n : Nat) (hn : n ≤ 1048576) (w : World) : ∃ cs : Array Value, cs.size = n * 4 ∧ (Instr.makeSlice 30 (.int .i64 n) (.int .i64 n)).run Try.prog w = .ok (.slice (some ⟨w.heap.size, 0, none⟩) n n) (w.alloc (.cells cs 49)) := by
  obtain ⟨i0, hi, hz0, hz1, hz2⟩ := info_parts infoRes
  have h := run_make (P := Try.prog) w 30 49 i0 _ Try.underlying30 hi hz0 .i64 .i64 (n : Int) (n : Int) (by omega) (by omega) (by rw [hz2]; omega) (by omega)
  simp only [Int.toNat_natCast, hz1] at h
  exact ⟨_, size_madeCells _ _, h⟩

set_option maxRecDepth 100000 in
set_option maxHeartbeats 1000000 in
theorem toResistorS_any (sv : Value) (xs : List Res) (w : World) (h : ResSl w sv xs) (hn : xs.length ≤ 1048576) :
    Calls Try.prog 38 #[sv] w fun e w' => ∃ g, e = .returned (.slice (some ⟨g, 0, none⟩) xs.length xs.length) ∧ ResBlk w' g xs ∧ w.heap.size ≤ g ∧ Below w.heap.size w w' := by
  rcases h with ⟨a, c, rfl, rfl⟩ | ⟨b, off, cap, rfl, h2, h3, h4⟩
  · obtain ⟨cs, hcs, hmk⟩ := make_res 0 (by omega) w
    simp only [Int.natCast_zero] at hmk
    go_enter Try.func38, Try.ntmps38
    go_wp2
    go_loopw [4] (fun i wr => i = .int .i64 0 ∧ Blk wr w.heap.size cs 49 ∧ Below w.heap.size w wr) (fun _ _ => 0)
    case atStart => exact ⟨rfl, (by ((repeat (first | (with_reducible assumption) | (with_reducible refine Blk.drewN ?_ _) | (with_reducible refine Blk.drew ?_) | ((with_reducible refine Blk.new _ ?_); focus (first | omega | (simp; done) | (simp; omega))) | (with_reducible refine Blk.past ?_ _) | ((with_reducible refine Blk.apart ?_ _ _ _ ?_); rotate_left; focus (first | omega | (simp; done) | (simp; omega))) | (with_reducible refine Blk.by (by assumption) ?_))); done)), (by ((repeat (first | (with_reducible exact Below.refl _ _) | (with_reducible refine below_drewN ?_ _) | (with_reducible refine Below.drew ?_) | (with_reducible refine below_al ?_ _) | (with_reducible refine below_on (by assumption) ?_) | ((with_reducible refine Below.setCell ?_ ?_ _); rotate_left; focus (first | omega | (simp; done) | (simp; omega))) | (with_reducible assumption))); done))⟩
    case round =>
      obtain ⟨rfl, hx, hb⟩ := hrel
      go_wp2
      go_ret
      exact ⟨w.heap.size, rfl, ⟨cs, hx, hcs, by simp⟩, Nat.le_refl _, hb⟩
  · obtain ⟨cs0, hcs0, hmk⟩ := make_res xs.length hn w
    unfold maxLen at h3
    go_enter Try.func38, Try.ntmps38
    go_wp2
    clear hmk
    go_loopw [4] (fun i wr => ∃ k : Nat, k ≤ xs.length ∧ i = .int .i64 k ∧ (∃ cs : Array Value, Blk wr w.heap.size cs 49 ∧ cs.size = xs.length * 4 ∧ ∀ j y, j < k → xs[j]? = some y → CsAt cs j y) ∧ Below w.heap.size w wr) (fun i _ => xs.length - (intOf i).toNat)
    case atStart => exact ⟨0, Nat.zero_le _, rfl, ⟨cs0, (by ((repeat (first | (with_reducible assumption) | (with_reducible refine Blk.drewN ?_ _) | (with_reducible refine Blk.drew ?_) | ((with_reducible refine Blk.new _ ?_); focus (first | omega | (simp; done) | (simp; omega))) | (with_reducible refine Blk.past ?_ _) | ((with_reducible refine Blk.apart ?_ _ _ _ ?_); rotate_left; focus (first | omega | (simp; done) | (simp; omega))) | (with_reducible refine Blk.by (by assumption) ?_))); done)), hcs0, by intro j y hj; omega⟩, (by ((repeat (first | (with_reducible exact Below.refl _ _) | (with_reducible refine below_drewN ?_ _) | (with_reducible refine Below.drew ?_) | (with_reducible refine below_al ?_ _) | (with_reducible refine below_on (by assumption) ?_) | ((with_reducible refine Below.setCell ?_ ?_ _); rotate_left; focus (first | omega | (simp; done) | (simp; omega))) | (with_reducible assumption))); done))⟩
    case round =>
      obtain ⟨k, hk, rfl, ⟨cs, hB, hsz, hold⟩, hb⟩ := hrel
      by_cases hlt : k < xs.length
      · obtain ⟨x, hx⟩ : ∃ x, xs[k]? = some x := ⟨xs[k], List.getElem?_eq_getElem hlt⟩
        obtain ⟨c1, c2, c3, c4⟩ := (h4 k x hx).by hb
        have HS := Lib.hid hsz
        have HO := Lib.hid hold
        have HX := Lib.hid hx
        have hin : k * 4 + 4 ≤ cs.size := by omega
        obtain ⟨u0_, d0⟩ : ∃ u, cs[k * 4]? = some u := ⟨_, Array.getElem?_eq_getElem (by omega)⟩
        obtain ⟨u1_, d1⟩ : ∃ u, cs[k * 4 + 1]? = some u := ⟨_, Array.getElem?_eq_getElem (by omega)⟩
        obtain ⟨u2_, d2⟩ : ∃ u, cs[k * 4 + 2]? = some u := ⟨_, Array.getElem?_eq_getElem (by omega)⟩
        obtain ⟨u3_, d3⟩ : ∃ u, cs[k * 4 + 3]? = some u := ⟨_, Array.getElem?_eq_getElem (by omega)⟩
        clear hsz hold hx h4 hcs0
        go_wp2_with fail
        refine (toResistor_any x _).mono ?_
        rintro e w1 ⟨rfl, hb1⟩
        replace hB := Blk.by hb1 hB
        have hBc := hB.cell
        have hBf := hB.free
        go_wp2
        refine ⟨⟨k + 1, by omega, by go_num, ⟨putRes cs k x, (((hB.set _ _).set _ _).set _ _).set _ _, by rw [size_putRes]; exact HS.out, ?_⟩, (by ((repeat (first | (with_reducible exact Below.refl _ _) | (with_reducible refine below_drewN ?_ _) | (with_reducible refine Below.drew ?_) | (with_reducible refine below_al ?_ _) | (with_reducible refine below_on (by assumption) ?_) | ((with_reducible refine Below.setCell ?_ ?_ _); rotate_left; focus (first | omega | (simp; done) | (simp; omega))) | (with_reducible assumption))); done))⟩, by simp [intOf]; omega⟩
        intro j y hj hy
        by_cases hjk : j = k
        · subst hjk
          have hxy := HX.out
          obtain rfl : y = x := Option.some.inj (hy.symm.trans hxy)
          exact putRes_same cs j y hin
        · exact putRes_other cs k j x y hjk (HO.out j y (by omega) hy)
      · go_wp2
        go_ret
        refine ⟨w.heap.size, rfl, ⟨cs, hB, hsz, fun i x hx => hold i x ?_ hx⟩, Nat.le_refl _, hb⟩
        have := (List.getElem?_eq_some_iff.1 hx).1
        omega

set_option maxRecDepth 100000 in
set_option maxHeartbeats 1000000 in
theorem eqResistorS_refl (s1 s2 : Value) (xs : List Res) (w : World) (h : ResSl w s1 xs) (h' : ResSl w s2 xs) :
    Calls Try.prog 39 #[s1, s2] w fun e w' => e = .returned (.bool true) ∧ Below w.heap.size w w' := by
  rcases h with ⟨a, c, rfl, rfl⟩ | ⟨b, off, cap, rfl, h2, h3, h4⟩
  · obtain ⟨a', c', rfl⟩ := h'.len
    go_enter Try.func39, Try.ntmps39
    go_wp2
    go_loopw [5] (fun i wr => i = .int .i64 0 ∧ Below w.heap.size w wr) (fun _ _ => 0)
    case atStart => exact ⟨rfl, (by ((repeat (first | (with_reducible exact Below.refl _ _) | (with_reducible refine below_drewN ?_ _) | (with_reducible refine Below.drew ?_) | (with_reducible refine below_al ?_ _) | (with_reducible refine below_on (by assumption) ?_) | ((with_reducible refine Below.setCell ?_ ?_ _); rotate_left; focus (first | omega | (simp; done) | (simp; omega))) | (with_reducible assumption))); done))⟩
    case round =>
      obtain ⟨rfl, hb⟩ := hrel
      go_wp2
      go_ret
      exact ⟨rfl, hb⟩
  · rcases h' with ⟨a', c', rfl, rfl⟩ | ⟨b', off', cap', rfl, h2', h3', h4'⟩
    · go_enter Try.func39, Try.ntmps39
      go_wp2
      go_loopw [5] (fun i wr => i = .int .i64 0 ∧ Below w.heap.size w wr) (fun _ _ => 0)
      case atStart => exact ⟨rfl, (by ((repeat (first | (with_reducible exact Below.refl _ _) | (with_reducible refine below_drewN ?_ _) | (with_reducible refine Below.drew ?_) | (with_reducible refine below_al ?_ _) | (with_reducible refine below_on (by assumption) ?_) | ((with_reducible refine Below.setCell ?_ ?_ _); rotate_left; focus (first | omega | (simp; done) | (simp; omega))) | (with_reducible assumption))); done))⟩
      case round =>
        obtain ⟨rfl, hb⟩ := hrel
        go_wp2
        go_ret
        exact ⟨rfl, hb⟩
    · unfold maxLen at h3 h3'
      go_enter Try.func39, Try.ntmps39
      go_wp2
      go_loopw [5] (fun i wr => ∃ k : Nat, k ≤ xs.length ∧ i = .int .i64 k ∧ Below w.heap.size w wr) (fun i _ => xs.length - (intOf i).toNat)
      case atStart => exact ⟨0, Nat.zero_le _, rfl, (by ((repeat (first | (with_reducible exact Below.refl _ _) | (with_reducible refine below_drewN ?_ _) | (with_reducible refine Below.drew ?_) | (with_reducible refine below_al ?_ _) | (with_reducible refine below_on (by assumption) ?_) | ((with_reducible refine Below.setCell ?_ ?_ _); rotate_left; focus (first | omega | (simp; done) | (simp; omega))) | (with_reducible assumption))); done))⟩
      case round =>
        obtain ⟨k, hk, rfl, hb⟩ := hrel
        by_cases hlt : k < xs.length
        · obtain ⟨x, hx⟩ : ∃ x, xs[k]? = some x := ⟨xs[k], List.getElem?_eq_getElem hlt⟩
          obtain ⟨c1, c2, c3, c4⟩ := (h4 k x hx).by hb
          obtain ⟨d1, d2, d3, d4⟩ := (h4' k x hx).by hb
          clear h4 h4' hx
          have i1 : (0 : Int) ≤ (k : Int) := by omega
          have i2 : (k : Int) < (xs.length : Int) := by omega
          go_wp2_with fail
          go_region_held3 (fun w' => (w'.cell? ⟨b, off + k * 4, none⟩ = some (.int .i64 x.a) ∧ w'.cell? ⟨b, off + k * 4 + 1, none⟩ = some (.int .i64 x.b) ∧ w'.cell? ⟨b, off + k * 4 + 2, none⟩ = some (.int .i64 x.num) ∧ w'.cell? ⟨b, off + k * 4 + 3, none⟩ = some (.int .i64 x.den)) ∧ (w'.cell? ⟨b', off' + k * 4, none⟩ = some (.int .i64 x.a) ∧ w'.cell? ⟨b', off' + k * 4 + 1, none⟩ = some (.int .i64 x.b) ∧ w'.cell? ⟨b', off' + k * 4 + 2, none⟩ = some (.int .i64 x.num) ∧ w'.cell? ⟨b', off' + k * 4 + 3, none⟩ = some (.int .i64 x.den)) ∧ Below w.heap.size w w')
            (first | exact ⟨⟨c1, c2, c3, c4⟩, ⟨d1, d2, d3, d4⟩, hb.drew⟩ | exact ⟨⟨cell_by' hb1 c1, cell_by' hb1 c2, cell_by' hb1 c3, cell_by' hb1 c4⟩, ⟨cell_by' hb1 d1, cell_by' hb1 d2, cell_by' hb1 d3, cell_by' hb1 d4⟩, below_on hb1 hb.drew⟩)
            (first | (go_at_call 57; refine (eqResistor_refl x _).mono ?_; rintro e w1 ⟨rfl, hb1⟩))
          go_wp2
          exact ⟨⟨k + 1, by omega, by go_num, below_on hb1 hb.drew⟩, by simp [intOf]; omega⟩
        · go_wp2
          go_ret
          exact ⟨rfl, hb⟩
end Go.Proofs.Ytljlcjficjefdaa
