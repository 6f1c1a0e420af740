/- toDeviceS, toPortS, toNetlist: with the memory of the call's own; marking netlists. -/
import Derived.Test.YtjldkejegdljiaaMarkPs
namespace Go.Proofs.Ytjldkejegdljiaa
open Go.RowKit
set_option linter.unusedVariables false
set_option linter.unusedSimpArgs false

set_option maxRecDepth 100000 in
set_option maxHeartbeats 2000000 in
theorem toDeviceS_own (sv : Value) (xs : List Dv) (w : World) (h : DvSl w sv xs) (hn : xs.length ≤ 1048576) (hpn : ∀ x ∈ xs, x.pins.length ≤ 1048576) :
    Calls Try.prog 35 #[sv] w fun e w' => ∃ v, e = .returned v ∧ OwnDs w' w.heap.size w'.heap.size v xs ∧ Below w.heap.size w w' := by
  rcases h with ⟨a, c, rfl, rfl⟩ | ⟨b, off, cap, rfl, h2, h3, h4⟩
  · obtain ⟨cs, hcs, hmk⟩ := make_dev 0 (by omega) w
    simp only [Int.natCast_zero] at hmk
    go_enter Try.func35, Try.ntmps35
    go_wp2
    go_loopw [4] (fun i wr => i = .int .i64 0 ∧ Blk wr w.heap.size cs 68 ∧ Below w.heap.size w wr) (fun _ _ => 0)
    case atStart => exact ⟨rfl, (by ((repeat (first | (with_reducible assumption) | (with_reducible refine Blk.drewN ?_ _) | (with_reducible refine Blk.drew ?_) | ((with_reducible refine Blk.new _ ?_); focus (first | omega | (simp; done) | (simp; omega))) | (with_reducible refine Blk.past ?_ _) | ((with_reducible refine Blk.apart ?_ _ _ _ ?_); rotate_left; focus (first | omega | (simp; done) | (simp; omega))) | (with_reducible refine Blk.by (by assumption) ?_))); done)), (by ((repeat (first | (with_reducible exact Below.refl _ _) | (with_reducible refine below_drewN ?_ _) | (with_reducible refine Below.drew ?_) | (with_reducible refine below_al ?_ _) | (with_reducible refine below_on (by assumption) ?_) | ((with_reducible refine Below.setCell ?_ ?_ _); rotate_left; focus (first | omega | (simp; done) | (simp; omega))) | (with_reducible assumption))); done))⟩
    case round =>
      obtain ⟨rfl, hx, hb⟩ := hrel
      go_wp2
      go_ret
      exact ⟨_, rfl, .inl ⟨_, _, rfl, rfl⟩, hb⟩
  · obtain ⟨cs0, hcs0, hmk⟩ := make_dev xs.length hn w
    unfold maxLen at h3
    go_enter Try.func35, Try.ntmps35
    go_wp2
    clear hmk
    go_loopw [4] (fun i wr => ∃ k : Nat, k ≤ xs.length ∧ i = .int .i64 k ∧ (∃ (cs : Array Value) (f : Nat → Nat), Blk wr w.heap.size cs 68 ∧ cs.size = xs.length * 4 ∧ (∀ j y, j < k → xs[j]? = some y → Cs4 cs j (.int .i64 y.kind) (.slice (some ⟨f j, 0, none⟩) y.pins.length y.pins.length) (.int .i64 y.wd) (.int .i64 y.len) ∧ IBlk wr (f j) y.pins ∧ w.heap.size < f j) ∧ (∀ i j, i < j → j < k → f i ≠ f j)) ∧ Below w.heap.size w wr) (fun i _ => xs.length - (intOf i).toNat)
    case atStart => exact ⟨0, Nat.zero_le _, rfl, ⟨cs0, fun _ => 0, (by ((repeat (first | (with_reducible assumption) | (with_reducible refine Blk.drewN ?_ _) | (with_reducible refine Blk.drew ?_) | ((with_reducible refine Blk.new _ ?_); focus (first | omega | (simp; done) | (simp; omega))) | (with_reducible refine Blk.past ?_ _) | ((with_reducible refine Blk.apart ?_ _ _ _ ?_); rotate_left; focus (first | omega | (simp; done) | (simp; omega))) | (with_reducible refine Blk.by (by assumption) ?_))); done)), hcs0, by intro j y hj; omega, by intro i j _ hj; omega⟩, (by ((repeat (first | (with_reducible exact Below.refl _ _) | (with_reducible refine below_drewN ?_ _) | (with_reducible refine Below.drew ?_) | (with_reducible refine below_al ?_ _) | (with_reducible refine below_on (by assumption) ?_) | ((with_reducible refine Below.setCell ?_ ?_ _); rotate_left; focus (first | omega | (simp; done) | (simp; omega))) | (with_reducible assumption))); done))⟩
    case round =>
      obtain ⟨k, hk, rfl, ⟨cs, f, hB, hsz, hold, hinj⟩, hb⟩ := hrel
      by_cases hlt : k < xs.length
      · obtain ⟨x, hx⟩ : ∃ x, xs[k]? = some x := ⟨xs[k], List.getElem?_eq_getElem hlt⟩
        obtain ⟨sv, c1, c2, c3, c4, hS⟩ := (h4 k x hx).by hb
        have HS := Lib.hid hsz
        have HO := Lib.hid hold
        have HINJ := Lib.hid hinj
        have HX := Lib.hid hx
        have hxm : x.pins.length ≤ 1048576 := hpn x (List.mem_of_getElem? hx)
        have HT := Lib.hid (fun w h => toDevice_any x.kind x.wd x.len sv x.pins w h hxm)
        have hin : k * 4 + 4 ≤ cs.size := by omega
        have hlB := hB.lt
        obtain ⟨u0_, d0⟩ : ∃ u, cs[k * 4]? = some u := ⟨_, Array.getElem?_eq_getElem (by omega)⟩
        obtain ⟨u1_, d1⟩ : ∃ u, cs[k * 4 + 1]? = some u := ⟨_, Array.getElem?_eq_getElem (by omega)⟩
        obtain ⟨u2_, d2⟩ : ∃ u, cs[k * 4 + 2]? = some u := ⟨_, Array.getElem?_eq_getElem (by omega)⟩
        obtain ⟨u3_, d3⟩ : ∃ u, cs[k * 4 + 3]? = some u := ⟨_, Array.getElem?_eq_getElem (by omega)⟩
        obtain ⟨a', c', rfl⟩ := hS.len
        clear hsz hold hinj hx h4 hcs0 hpn
        go_wp2_with fail
        refine (HT.out _ hS).mono ?_
        rintro e w1 ⟨gp, rfl, hG, hge, hb1⟩
        replace hB := Blk.by hb1 hB
        have hBc := hB.cell
        have hBf := hB.free
        go_wp2
        have hlt' : ∀ j y, j < k → xs[j]? = some y → f j < wr.heap.size := fun j y hj hy => (HO.out j y hj hy).2.1.lt
        refine ⟨⟨k + 1, by omega, by go_num, ⟨put4 cs k (.int .i64 x.kind) (.slice (some ⟨gp, 0, none⟩) x.pins.length x.pins.length) (.int .i64 x.wd) (.int .i64 x.len), fun j => if j = k then gp else f j, (((hB.set _ _).set _ _).set _ _).set _ _, by rw [size_put4]; exact HS.out, ?_, ?_⟩, (by ((repeat (first | (with_reducible exact Below.refl _ _) | (with_reducible refine below_drewN ?_ _) | (with_reducible refine Below.drew ?_) | (with_reducible refine below_al ?_ _) | (with_reducible refine below_on (by assumption) ?_) | ((with_reducible refine Below.setCell ?_ ?_ _); rotate_left; focus (first | omega | (simp; done) | (simp; omega))) | (with_reducible assumption))); done))⟩, by simp [intOf]; omega⟩
        · intro j y hj hy
          by_cases hjk : j = k
          · subst hjk
            have hxy := HX.out
            obtain rfl : y = x := Option.some.inj (hy.symm.trans hxy)
            simp only [if_true]
            exact ⟨put4_same cs j _ _ _ _ hin, (((hG.apart _ _ _ (by omega)).apart _ _ _ (by omega)).apart _ _ _ (by omega)).apart _ _ _ (by omega), by omega⟩
          · obtain ⟨q1, q2, q3⟩ := HO.out j y (by omega) hy
            simp only [if_neg hjk]
            exact ⟨put4_other cs k j _ _ _ _ _ _ _ _ hjk q1, ((((q2.by hb1).apart _ _ _ (by omega)).apart _ _ _ (by omega)).apart _ _ _ (by omega)).apart _ _ _ (by omega), q3⟩
        · intro i j hij hj
          obtain ⟨y, hy⟩ : ∃ y, xs[i]? = some y := ⟨xs[i]'(by omega), List.getElem?_eq_getElem (by omega)⟩
          have hfi := hlt' i y (by omega) hy
          by_cases hjk : j = k
          · subst hjk
            simp only [if_true, if_neg (show i ≠ j by omega)]
            omega
          · simp only [if_neg hjk, if_neg (show i ≠ k by omega)]
            exact HINJ.out i j hij (by omega)
      · go_wp2
        go_ret
        have hlB := hB.lt
        obtain rfl : k = xs.length := by omega
        refine ⟨_, rfl, .inr ⟨w.heap.size, xs.length, cs, f, rfl, by omega, Nat.le_refl _, by unfold maxLen; omega, hB, fun i x hx => ?_, fun i j hi hj hij => ?_⟩, hb⟩
        · have hi := (List.getElem?_eq_some_iff.1 hx).1
          obtain ⟨q1, q2, q3⟩ := hold i x hi hx
          have := q2.lt
          exact ⟨⟨_, q1, q2.r (by have := hpn x (List.mem_of_getElem? hx); omega)⟩, by omega⟩
        · rcases Nat.lt_or_ge i j with h | h
          · exact hinj i j h hj
          · exact fun e => hinj j i (by omega) hi e.symm
end Go.Proofs.Ytjldkejegdljiaa
