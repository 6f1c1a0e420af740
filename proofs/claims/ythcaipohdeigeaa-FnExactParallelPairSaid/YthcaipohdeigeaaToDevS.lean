/- toDeviceS: a slice of devices of the call's own. -/
import Derived.Test.YthcaipohdeigeaaSzDev
namespace Go.Proofs.Ythcaipohdeigeaa
open Go.RowKit
set_option linter.unusedVariables false
set_option linter.unusedSimpArgs false

/-- Element i of an array of cells. -/
def Cs4 (cs : Array Value) (i : Nat) (a b c d : Value) : Prop := cs[i * 4]? = some a ∧ cs[i * 4 + 1]? = some b ∧ cs[i * 4 + 2]? = some c ∧ cs[i * 4 + 3]? = some d
def put4 (cs : Array Value) (i : Nat) (a b c d : Value) : Array Value := (((cs.setIfInBounds (i * 4) a).setIfInBounds (i * 4 + 1) b).setIfInBounds (i * 4 + 2) c).setIfInBounds (i * 4 + 3) d
theorem size_put4 (cs : Array Value) (i : Nat) (a b c d : Value) : (put4 cs i a b c d).size = cs.size := by simp [put4]
theorem put4_same (cs : Array Value) (i : Nat) (a b c d : Value) (h : i * 4 + 4 ≤ cs.size) : Cs4 (put4 cs i a b c d) i a b c d := by
  refine ⟨?_, ?_, ?_, ?_⟩ <;> simp only [put4, Array.getElem?_setIfInBounds, Array.size_setIfInBounds] <;> repeat (first | rw [if_pos trivial] | rw [if_pos (by omega)] | rw [if_neg (by omega)])
theorem put4_other (cs : Array Value) (i j : Nat) (a b c d a' b' c' d' : Value) (hne : j ≠ i) (h : Cs4 cs j a' b' c' d') : Cs4 (put4 cs i a b c d) j a' b' c' d' := by
  obtain ⟨h1, h2, h3, h4⟩ := h
  refine ⟨?_, ?_, ?_, ?_⟩ <;> simp only [put4, Array.getElem?_setIfInBounds, Array.size_setIfInBounds] <;> (repeat rw [if_neg (by omega)]) <;> assumption

/-- Element i of the block's cells is this device, its pins in a block of their own behind g. -/
def DvIn (w : World) (g : Nat) (cs : Array Value) (i : Nat) (x : Dv) : Prop :=
  ∃ gp, g < gp ∧ IBlk w gp x.pins ∧ Cs4 cs i (.int .i64 x.kind) (.slice (some ⟨gp, 0, none⟩) x.pins.length x.pins.length) (.int .i64 x.wd) (.int .i64 x.len)
theorem DvIn.by {w w1 : World} {g : Nat} {cs : Array Value} {i : Nat} {x : Dv} (hb : Below w.heap.size w w1) (h : DvIn w g cs i x) : DvIn w1 g cs i x := by
  obtain ⟨gp, h1, h2, h3⟩ := h; exact ⟨gp, h1, h2.by hb, h3⟩
theorem DvIn.apart {w : World} {g : Nat} {cs : Array Value} {i : Nat} {x : Dv} (h : DvIn w g cs i x) (b o : Nat) (v : Value) (hb : b ≤ g) : DvIn (w.setCell ⟨b, o, none⟩ v) g cs i x := by
  obtain ⟨gp, h1, h2, h3⟩ := h; exact ⟨gp, h1, h2.apart _ _ _ (by omega), h3⟩
/-- A block of the call's own that holds these devices, and no more. -/
def DvBlk (w : World) (g : Nat) (xs : List Dv) : Prop := ∃ cs : Array Value, Blk w g cs 27 ∧ cs.size = xs.length * 4 ∧ ∀ (i : Nat) (x : Dv), xs[i]? = some x → DvIn w g cs i x
theorem DvBlk.by {w w1 : World} {g : Nat} {xs : List Dv} (hb : Below w.heap.size w w1) (h : DvBlk w g xs) : DvBlk w1 g xs := by
  obtain ⟨cs, h1, h2, h3⟩ := h; exact ⟨cs, Blk.by hb h1, h2, fun i x hx => (h3 i x hx).by hb⟩
theorem DvBlk.lt {w : World} {g : Nat} {xs : List Dv} (h : DvBlk w g xs) : g < w.heap.size := by
  obtain ⟨cs, h1, h2⟩ := h; exact h1.lt
theorem DvBlk.apart {w : World} {g : Nat} {xs : List Dv} (h : DvBlk w g xs) (b o : Nat) (v : Value) (hb : b < g) : DvBlk (w.setCell ⟨b, o, none⟩ v) g xs := by
  obtain ⟨cs, h1, h2, h3⟩ := h; exact ⟨cs, h1.apart b o v (by omega), h2, fun i x hx => (h3 i x hx).apart b o v (by omega)⟩

theorem infoDev : (Try.prog.info? 27).map (fun i => (i.zero, i.size, i.bytes)) = some (some (.agg #[.int .i64 0, .slice none 0 0, .int .i64 0, .int .i64 0]), 4, 48) := by kernel_rfl
/-- make([]impl.Device, n). -/
theorem make_dev (n : Nat) (hn : n ≤ 1048576) (w : World) : ∃ cs : Array Value, cs.size = n * 4 ∧ (Instr.makeSlice 40 (.int .i64 n) (.int .i64 n)).run Try.prog w = .ok (.slice (some ⟨w.heap.size, 0, none⟩) n n) (w.alloc (.cells cs 27)) := by
  obtain ⟨i0, hi, hz0, hz1, hz2⟩ := info_parts infoDev
  have h := run_make (P := Try.prog) w 40 27 i0 _ Try.underlying40 hi hz0 .i64 .i64 (n : Int) (n : Int) (by omega) (by omega) (by rw [hz2]; omega) (by omega)
  simp only [Int.toNat_natCast, hz1] at h
  exact ⟨_, size_madeCells _ _, h⟩

set_option maxRecDepth 100000 in
set_option maxHeartbeats 2000000 in
theorem toDeviceS_any (sv : Value) (xs : List Dv) (w : World) (h : DvSl w sv xs) (hn : xs.length ≤ 1048576) (hpn : ∀ x ∈ xs, x.pins.length ≤ 1048576) :
    Calls Try.prog 71 #[sv] w fun e w' => ∃ g, e = .returned (.slice (some ⟨g, 0, none⟩) xs.length xs.length) ∧ DvBlk w' g xs ∧ w.heap.size ≤ g ∧ Below w.heap.size w w' := by
  rcases h with ⟨a, c, rfl, rfl⟩ | ⟨b, off, cap, rfl, h2, h3, h4⟩
  · obtain ⟨cs, hcs, hmk⟩ := make_dev 0 (by omega) w
    simp only [Int.natCast_zero] at hmk
    go_enter Try.func71, Try.ntmps71
    go_wp2
    go_loopw [4] (fun i wr => i = .int .i64 0 ∧ Blk wr w.heap.size cs 27 ∧ Below w.heap.size w wr) (fun _ _ => 0)
    case atStart => exact ⟨rfl, (by ((repeat (first | (with_reducible assumption) | (with_reducible refine Blk.drewN ?_ _) | (with_reducible refine Blk.drew ?_) | ((with_reducible refine Blk.new _ ?_); focus (first | omega | (simp; done) | (simp; omega))) | (with_reducible refine Blk.past ?_ _) | ((with_reducible refine Blk.apart ?_ _ _ _ ?_); rotate_left; focus (first | omega | (simp; done) | (simp; omega))) | (with_reducible refine Blk.by (by assumption) ?_))); done)), (by ((repeat (first | (with_reducible exact Below.refl _ _) | (with_reducible refine below_drewN ?_ _) | (with_reducible refine Below.drew ?_) | (with_reducible refine below_al ?_ _) | (with_reducible refine below_on (by assumption) ?_) | ((with_reducible refine Below.setCell ?_ ?_ _); rotate_left; focus (first | omega | (simp; done) | (simp; omega))) | (with_reducible assumption))); done))⟩
    case round =>
      obtain ⟨rfl, hx, hb⟩ := hrel
      go_wp2
      go_ret
      exact ⟨w.heap.size, rfl, ⟨cs, hx, hcs, by simp⟩, Nat.le_refl _, hb⟩
  · obtain ⟨cs0, hcs0, hmk⟩ := make_dev xs.length hn w
    unfold maxLen at h3
    go_enter Try.func71, Try.ntmps71
    go_wp2
    clear hmk
    go_loopw [4] (fun i wr => ∃ k : Nat, k ≤ xs.length ∧ i = .int .i64 k ∧ (∃ cs : Array Value, Blk wr w.heap.size cs 27 ∧ cs.size = xs.length * 4 ∧ ∀ j y, j < k → xs[j]? = some y → DvIn wr w.heap.size cs j y) ∧ Below w.heap.size w wr) (fun i _ => xs.length - (intOf i).toNat)
    case atStart => exact ⟨0, Nat.zero_le _, rfl, ⟨cs0, (by ((repeat (first | (with_reducible assumption) | (with_reducible refine Blk.drewN ?_ _) | (with_reducible refine Blk.drew ?_) | ((with_reducible refine Blk.new _ ?_); focus (first | omega | (simp; done) | (simp; omega))) | (with_reducible refine Blk.past ?_ _) | ((with_reducible refine Blk.apart ?_ _ _ _ ?_); rotate_left; focus (first | omega | (simp; done) | (simp; omega))) | (with_reducible refine Blk.by (by assumption) ?_))); done)), hcs0, by intro j y hj; omega⟩, (by ((repeat (first | (with_reducible exact Below.refl _ _) | (with_reducible refine below_drewN ?_ _) | (with_reducible refine Below.drew ?_) | (with_reducible refine below_al ?_ _) | (with_reducible refine below_on (by assumption) ?_) | ((with_reducible refine Below.setCell ?_ ?_ _); rotate_left; focus (first | omega | (simp; done) | (simp; omega))) | (with_reducible assumption))); done))⟩
    case round =>
      obtain ⟨k, hk, rfl, ⟨cs, hB, hsz, hold⟩, hb⟩ := hrel
      by_cases hlt : k < xs.length
      · obtain ⟨x, hx⟩ : ∃ x, xs[k]? = some x := ⟨xs[k], List.getElem?_eq_getElem hlt⟩
        obtain ⟨sv, c1, c2, c3, c4, hS⟩ := (h4 k x hx).by hb
        have HS := Lib.hid hsz
        have HO := Lib.hid hold
        have HX := Lib.hid hx
        have hxm : x.pins.length ≤ 1048576 := hpn x (List.mem_of_getElem? hx)
        have HT := Lib.hid (fun w h => toDevice_any x.kind x.wd x.len sv x.pins w h hxm)
        have hin : k * 4 + 4 ≤ cs.size := by omega
        have hlB := hB.lt
        obtain ⟨u0_, d0⟩ : ∃ u, cs[k * 4]? = some u := ⟨_, Array.getElem?_eq_getElem (by omega)⟩
        obtain ⟨u1_, d1⟩ : ∃ u, cs[k * 4 + 1]? = some u := ⟨_, Array.getElem?_eq_getElem (by omega)⟩
        obtain ⟨u2_, d2⟩ : ∃ u, cs[k * 4 + 2]? = some u := ⟨_, Array.getElem?_eq_getElem (by omega)⟩
        obtain ⟨u3_, d3⟩ : ∃ u, cs[k * 4 + 3]? = some u := ⟨_, Array.getElem?_eq_getElem (by omega)⟩
        obtain ⟨a', c', rfl⟩ := hS.len
        clear hsz hold hx h4 hcs0 hpn
        go_wp2_with fail
        refine (HT.out _ hS).mono ?_
        rintro e w1 ⟨gp, rfl, hG, hge, hb1⟩
        replace hB := Blk.by hb1 hB
        have hBc := hB.cell
        have hBf := hB.free
        go_wp2
        refine ⟨⟨k + 1, by omega, by go_num, ⟨put4 cs k (.int .i64 x.kind) (.slice (some ⟨gp, 0, none⟩) x.pins.length x.pins.length) (.int .i64 x.wd) (.int .i64 x.len), (((hB.set _ _).set _ _).set _ _).set _ _, by rw [size_put4]; exact HS.out, ?_⟩, (by ((repeat (first | (with_reducible exact Below.refl _ _) | (with_reducible refine below_drewN ?_ _) | (with_reducible refine Below.drew ?_) | (with_reducible refine below_al ?_ _) | (with_reducible refine below_on (by assumption) ?_) | ((with_reducible refine Below.setCell ?_ ?_ _); rotate_left; focus (first | omega | (simp; done) | (simp; omega))) | (with_reducible assumption))); done))⟩, by simp [intOf]; omega⟩
        intro j y hj hy
        refine DvIn.apart (DvIn.apart (DvIn.apart (DvIn.apart ?_ _ _ _ (Nat.le_refl _)) _ _ _ (Nat.le_refl _)) _ _ _ (Nat.le_refl _)) _ _ _ (Nat.le_refl _)
        by_cases hjk : j = k
        · subst hjk
          have hxy := HX.out
          obtain rfl : y = x := Option.some.inj (hy.symm.trans hxy)
          exact ⟨gp, by omega, hG, put4_same cs j _ _ _ _ hin⟩
        · obtain ⟨gq, q1, q2, q3⟩ := HO.out j y (by omega) hy
          exact ⟨gq, q1, q2.by hb1, put4_other cs k j _ _ _ _ _ _ _ _ hjk q3⟩
      · go_wp2
        go_ret
        refine ⟨w.heap.size, rfl, ⟨cs, hB, hsz, fun i x hx => hold i x ?_ hx⟩, Nat.le_refl _, hb⟩
        have := (List.getElem?_eq_some_iff.1 hx).1
        omega
end Go.Proofs.Ythcaipohdeigeaa
