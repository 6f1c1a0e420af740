/- The draw of a device: any device with two or three pins. -/
import Derived.Test.YtdljbmfmmlcmmaaDraw1
import Derived.Test.YtdljbmfmmlcmmaaBldDs
import Derived.Test.YtdljbmfmmlcmmaaValid0
import Derived.Test.YtdljbmfmmlcmmaaBldMs
import Derived.Deep.RegionHeldLaw
namespace Go.Proofs.Ytdljbmfmmlcmmaa
open Go.RowKit
set_option linter.unusedVariables false
set_option linter.unusedSimpArgs false

/-- A drawn device. -/
def Drawn (d : Dv) : Prop := (0 ≤ d.kind ∧ d.kind ≤ 2) ∧ (1 ≤ d.wd ∧ d.wd ≤ 4) ∧ (1 ≤ d.len ∧ d.len ≤ 3) ∧ (2 ≤ d.pins.length ∧ d.pins.length ≤ 3)
theorem BldI.one {w : World} {lo hi : Nat} {v : Value} {zs : List Int} (h : BldI w lo hi v zs) (h0 : 0 < zs.length) : ∃ f, BldI w f (f + 1) v zs ∧ lo ≤ f ∧ f < hi := by
  obtain ⟨hs, ⟨hlen, r⟩, h3⟩ := h
  rcases r with ⟨_, r1⟩ | ⟨g, cap', cur, rfl, e2, e3, e4, e5, e6, e7⟩
  · omega
  · have hg := h3 g rfl
    refine ⟨g, ⟨by omega, ⟨hlen, .inr ⟨g, cap', cur, rfl, Nat.le_refl _, e3, e4, e5, e6, e7⟩⟩, fun g' hg' => ?_⟩, hg.1, hg.2⟩
    have : g = g' := by injection hg'
    omega

theorem Src1.within {W0 w w1 : World} {g n lo hi : Nat} {sv : Value} (hb : Within lo hi w w1) (h : Src1 W0 g sv n w) (hg : g < lo) (hlo : W0.heap.size ≤ lo) : Src1 W0 g sv n w1 := by
  obtain ⟨h1, h2, h3, h4, i, x, h5, h6, h7, h8⟩ := h
  exact ⟨h1, hb.below h2 hlo, h3, h4, i, x, h5, h6, h7, hb.blk h8 (.inl hg)⟩

set_option maxRecDepth 100000 in
set_option maxHeartbeats 8000000 in
theorem l27DrawDevice_any (W0 : World) (g : Nat) (sv : Value) (n : Nat) (m : Int) (hm : m ≤ 256) (w : World) (hD : Src1 W0 g sv n w) :
    Calls Try.prog 64 #[.pointer (some ⟨g, 0, none⟩), .int .i64 m] w fun e w' => ∃ (d : Dv) (pv : Value) (f : Nat), e = .returned (.agg #[.int .i64 d.kind, pv, .int .i64 d.wd, .int .i64 d.len]) ∧ (2 ≤ d.pins.length ∧ d.pins.length ≤ 3) ∧ BldI w' f (f + 1) pv d.pins ∧ w.heap.size ≤ f ∧ Src1 W0 g sv n w' ∧ Within g (g + 1) w w' := by
  have HN := Lib.hid (fun q w h hq => l01Next_any W0 g sv n q w h hq)
  have hgl := hD.lt
  have HD := Lib.hid hD
  have HRD := Lib.hid (fun n d w h1 h2 h3 h4 h5 => l26Reduce_any n d w h1 h2 h3 h4 h5)
  obtain ⟨M, hM⟩ : ∃ M, max 1 m = M := ⟨_, rfl⟩
  have hM256 : M ≤ 256 := by omega
  clear hD
  go_enter Try.func64, Try.ntmps64
  go_wp2_with fail
  refine (HN.out _ _ (HD.out.by (by ((repeat (first | (with_reducible exact Below.refl _ _) | (with_reducible refine below_drewN ?_ _) | (with_reducible refine Below.drew ?_) | (with_reducible refine below_al ?_ _) | (with_reducible refine below_on (by assumption) ?_) | ((with_reducible refine Below.setCell ?_ ?_ _); rotate_left; focus (first | omega | (simp; done) | (simp; omega))) | (with_reducible assumption))); done))) (by omega)).mono ?_
  rintro e w1 ⟨a, rfl, ha0, ha1, hD1, ho1⟩
  have kZ0 : Blk (w.alloc (.cells #[.int .i64 0, .slice none 0 0, .int .i64 0, .int .i64 0] 35)) w.heap.size #[.int .i64 0, .slice none 0 0, .int .i64 0, .int .i64 0] 35 := Blk.new _ rfl
  have kZ := ho1.within.blk kZ0 (by omega)
  clear kZ0
  have hW1 : Within g (g + 1) w w1 := ((Within.refl g (g + 1) w).alloc _).on ho1.within
  go_wp2_with fail
  refine (HN.out _ _ hD1 (by omega)).mono ?_
  rintro e w2 ⟨b, rfl, hb0, hb1, hD2, ho2⟩
  replace kZ := ho2.within.blk kZ (by omega)
  replace hW1 := hW1.on ho2.within
  go_wp2_with fail
  refine (HN.out _ _ hD2 (by omega)).mono ?_
  rintro e w3 ⟨c, rfl, hc0, hc1, hD3, ho3⟩
  replace kZ := ho3.within.blk kZ (by omega)
  replace hW1 := hW1.on ho3.within
  have wb : IntKind.i64.wrap (1 + b) = 1 + b := by simp [IntKind.wrap, IntKind.bits, IntKind.signed]; omega
  have wc : IntKind.i64.wrap (1 + c) = 1 + c := by simp [IntKind.wrap, IntKind.bits, IntKind.signed]; omega
  have lZ := kZ.lt
  have HD3 := Lib.hid hD3
  have HW1 := Lib.hid hW1
  clear hD1 hD2 hD3 hW1 ho1 ho2 ho3
  by_cases hk : a = 2
  · subst hk
    have kZL := (kZ.past (.cells #[.int .i64 2, .slice none 0 0, .int .i64 (1 + b), .int .i64 (1 + c)] 35))
    have k5L : Blk (w3.alloc (.cells #[.int .i64 2, .slice none 0 0, .int .i64 (1 + b), .int .i64 (1 + c)] 35)) w3.heap.size #[.int .i64 2, .slice none 0 0, .int .i64 (1 + b), .int .i64 (1 + c)] 35 := Blk.new _ rfl
    have HDL := Lib.hid (HD3.out.by ((Below.refl _ w3).alloc (Nat.le_refl _) (.cells #[.int .i64 2, .slice none 0 0, .int .i64 (1 + b), .int .i64 (1 + c)] 35)))
    have HWL := Lib.hid (HW1.out.alloc (.cells #[.int .i64 2, .slice none 0 0, .int .i64 (1 + b), .int .i64 (1 + c)] 35))
    have hsL : w3.heap.size < (w3.alloc (.cells #[.int .i64 2, .slice none 0 0, .int .i64 (1 + b), .int .i64 (1 + c)] 35)).heap.size := by simp
    go_wp2_with (go_at_call 84; refine (HRD.out (1 + b) (1 + c) _ (by omega) (by omega) (by omega) (by omega) (by omega)).mono ?_; rintro e w4 ⟨rfl, hb4⟩; replace kZL := Blk.by hb4 kZL; replace k5L := Blk.by hb4 k5L; replace HDL := Lib.hid (HDL.out.by hb4); replace HWL := Lib.hid (HWL.out.on (Within.ofBelow g (g + 1) hb4)); have c54 := k5L.cell; have f54 := k5L.free; have l54 := k5L.lt; replace hsL := Nat.lt_of_lt_of_le hsL hb4.size)
    generalize redN (1 + b) (1 + c) = RN at *
    generalize redD (1 + b) (1 + c) = RD at *
    obtain ⟨B, hBq⟩ : ∃ B, w4.heap.size + 1 = B := ⟨_, rfl⟩
    have HBL : Hid (BldI (((w4.setCell ⟨w3.heap.size, 2, none⟩ (.int .i64 RN)).setCell ⟨w3.heap.size, 3, none⟩ (.int .i64 RD)).alloc (.cells #[.int .i64 RN, .int .i64 RD] 91)) B B (.slice none 0 0) []) := Lib.hid (by have := BldI.nil (((w4.setCell ⟨w3.heap.size, 2, none⟩ (.int .i64 RN)).setCell ⟨w3.heap.size, 3, none⟩ (.int .i64 RD)).alloc (.cells #[.int .i64 RN, .int .i64 RD] 91)) B; simpa [hBq] using this)
    go_loopw [6] (fun z wr => ∃ (q : Nat) (v : Value) (zs : List Int) (hi : Nat) (W L : Int), z = .int .i64 q ∧ zs.length + q = 2 ∧ B ≤ hi ∧ Blk wr w3.heap.size #[.int .i64 2, v, .int .i64 W, .int .i64 L] 35 ∧ Hid (Blk wr w.heap.size #[.int .i64 0, .slice none 0 0, .int .i64 0, .int .i64 0] 35) ∧ Hid (BldI wr B hi v zs) ∧ Hid (Src1 W0 g sv n wr) ∧ Hid (Within g (g + 1) w wr)) (fun z _ => (intOf z).toNat)
    case atStart => exact ⟨2, .slice none 0 0, [], B, RN, RD, rfl, rfl, Nat.le_refl _, ((k5L.set 2 _).set 3 _).past _, Lib.hid (((kZL.apart w3.heap.size 2 _ (by omega)).apart w3.heap.size 3 _ (by omega)).past _), HBL, Lib.hid (((HDL.out.apart (b := w3.heap.size) (by omega) (by have := HD.out.1; omega)).apart (b := w3.heap.size) (by omega) (by have := HD.out.1; omega)).by ((Below.refl _ _).alloc (Nat.le_refl _) _)), Lib.hid (((HWL.out.new w3.heap.size _ _ (by omega)).new w3.heap.size _ _ (by omega)).alloc _)⟩
    case round =>
      clear HDL HWL kZL k5L HBL
      obtain ⟨q, v, zs, hi, W, L, rfl, hzq, hBhi, k5, HZ, HB, HDr, HWr⟩ := hrel
      obtain ⟨av, cv, rfl⟩ := HB.out.sized
      have hhi := HB.out.1
      have l5 := k5.lt
      have c51 : wr.cell? ⟨w3.heap.size, 1, none⟩ = some (.slice av zs.length cv) := k5.cell 1
      by_cases hq : 0 < q
      · obtain ⟨r, rfl⟩ : ∃ r, q = r + 1 := ⟨q - 1, by omega⟩
        have i1 : (0 : Int) < ((r + 1 : Nat) : Int) := by omega
        have wq : IntKind.i64.wrap (((r + 1 : Nat) : Int) - 1) = (r : Int) := by simp [IntKind.wrap, IntKind.bits, IntKind.signed]; omega
        have hzl : zs.length ≤ 3 := by omega
        have HB2 := HB
        go_wp2
        go_region_law
          (first | (go_simp; go_at_call 18; refine (HN.out _ _ (HDr.out.by (below_of_drewN wr 1)) (by omega)).mono ?_; rintro e w5 ⟨y, rfl, hy0, hy1, hD5, ho5⟩; have HD5 := Lib.hid hD5; have k55 := ho5.within.blk k5.drew (by omega); have c55 : w5.cell? ⟨w3.heap.size, 1, none⟩ = some (.slice av zs.length cv) := k55.cell 1; have l55 := k55.lt; clear hD5; dsimp only) | (refine step_pushI (by rfl) _ _ (by rfl) B hi _ zs [y] (by rfl) ((BldI.only ho5 (HB2.out.by (below_of_drewN wr 1)) (by omega)).by (by ((repeat (first | (with_reducible exact Below.refl _ _) | (with_reducible refine below_drewN ?_ _) | (with_reducible refine Below.drew ?_) | (with_reducible refine below_al ?_ _) | (with_reducible refine below_on (by assumption) ?_) | ((with_reducible refine Below.setCell ?_ ?_ _); rotate_left; focus (first | omega | (simp; done) | (simp; omega))) | (with_reducible assumption))); done))) w5.heap.size 1 #[.int .i64 y] (by rfl) (by rfl) (by omega) (Blk.new _ rfl) (by rfl) (by omega) (by omega) ?_; intro a' c' w6 hB6 hw6; have HB6 := Lib.hid hB6; have k56 := hw6.blk (k55.past (.cells #[.int .i64 y] 2)) (by omega); have c56 : w6.cell? ⟨w3.heap.size, 1, none⟩ = some (.slice av zs.length cv) := k56.cell 1; have f56 : w6.frozen? ⟨w3.heap.size, 1, none⟩ = false := k56.free 1; have l56 := k56.lt; clear hB6))
        all_goals
          have hs6 := hw6.size
          simp only [World.size_alloc] at hs6
          have hs5 := ho5.within.size
          (try simp only [World.size_drew] at hs5)
          have hs5' : wr.heap.size ≤ w5.heap.size := hs5
          have HD6 := Lib.hid (Src1.within hw6 (HD5.out.by ((Below.refl _ w5).alloc (Nat.le_refl _) (.cells #[.int .i64 y] 2))) (by omega) (by have := HD.out.1; omega))
          have kZ6 := hw6.blk ((ho5.within.blk HZ.out.drew (by omega)).past (.cells #[.int .i64 y] 2)) (by omega)
          have HW6 := Lib.hid (((((HWr.out.drewN 1).on ho5.within).alloc (.cells #[.int .i64 y] 2)).newerM hw6 (by omega)))
          have HKZ := Lib.hid kZ6
          clear kZ6
          go_wp2
          all_goals first
            | refine ⟨⟨r, .slice a' (zs.length + 1) c', zs ++ [y], w6.heap.size, W, L, by first | rfl | (rw [wq]) | go_num, by simp <;> omega, by omega, by simpa using k56.set 1 _, Lib.hid (HKZ.out.apart _ _ _ (by omega)), Lib.hid (by simpa using HB6.out.past (Within.off _) (.inl (by omega))), Lib.hid (HD6.out.apart (by omega) (by have := HD.out.1; omega)), Lib.hid (HW6.out.new _ _ _ (by omega))⟩, by simp [intOf] <;> omega⟩
            | refine ⟨⟨r, rfl, .slice a' (zs.length + 1) c', zs ++ [y], by simp <;> omega, w6.heap.size, by omega, ⟨W, L, by simpa using k56.set 1 _⟩, Lib.hid (HKZ.out.apart _ _ _ (by omega)), Lib.hid (by simpa using HB6.out.past (Within.off _) (.inl (by omega))), Lib.hid (HD6.out.apart (by omega) (by have := HD.out.1; omega)), Lib.hid (HW6.out.new _ _ _ (by omega))⟩, by simp [intOf] <;> omega⟩
      · obtain rfl : q = 0 := by omega
        have i1 : ¬ (0 : Int) < ((0 : Nat) : Int) := by omega
        obtain ⟨f, hBf, hf1, hf2⟩ := HB.out.one (by omega)
        have HBF := Lib.hid hBf
        have kZr := HZ.out
        have c5 := k5.cell
        have cZ := kZr.cell
        have fZ := kZr.free
        have lZr := kZr.lt
        have hpl : 2 ≤ zs.length ∧ zs.length ≤ 3 := by omega
        clear hBf c51 HB hzq
        go_wp2
        refine bodyPost_ret (v := .agg #[.int .i64 2, .slice av zs.length cv, .int .i64 W, .int .i64 L]) (by simp [results, Try.results64, go_sem, *]) rfl ⟨⟨2, zs, W, L⟩, _, rfl, hpl, f, ?_, by omega, ?_, ?_⟩
        · exact (((HBF.out.past (Within.off _) (.inl (by omega))).past (Within.off _) (.inl (by omega))).past (Within.off _) (.inl (by omega))).past (Within.off _) (.inl (by omega))
        · exact (((HDr.out.apart (by omega) (by have := HD.out.1; omega)).apart (by omega) (by have := HD.out.1; omega)).apart (by omega) (by have := HD.out.1; omega)).apart (by omega) (by have := HD.out.1; omega)
        · exact (((HWr.out.new _ _ _ (by omega)).new _ _ _ (by omega)).new _ _ _ (by omega)).new _ _ _ (by omega)
  · have hk' : ¬ (a = 2) := hk
    have kZL := (kZ.past (.cells #[.int .i64 a, .slice none 0 0, .int .i64 (1 + b), .int .i64 (1 + c)] 35))
    have k5L : Blk (w3.alloc (.cells #[.int .i64 a, .slice none 0 0, .int .i64 (1 + b), .int .i64 (1 + c)] 35)) w3.heap.size #[.int .i64 a, .slice none 0 0, .int .i64 (1 + b), .int .i64 (1 + c)] 35 := Blk.new _ rfl
    have HDL := Lib.hid (HD3.out.by ((Below.refl _ w3).alloc (Nat.le_refl _) (.cells #[.int .i64 a, .slice none 0 0, .int .i64 (1 + b), .int .i64 (1 + c)] 35)))
    have HWL := Lib.hid (HW1.out.alloc (.cells #[.int .i64 a, .slice none 0 0, .int .i64 (1 + b), .int .i64 (1 + c)] 35))
    have hsL : w3.heap.size < (w3.alloc (.cells #[.int .i64 a, .slice none 0 0, .int .i64 (1 + b), .int .i64 (1 + c)] 35)).heap.size := by simp
    obtain ⟨B, hBq⟩ : ∃ B, w3.heap.size + 1 = B := ⟨_, rfl⟩
    have HBL : Hid (BldI (w3.alloc (.cells #[.int .i64 a, .slice none 0 0, .int .i64 (1 + b), .int .i64 (1 + c)] 35)) B B (.slice none 0 0) []) := Lib.hid (by have := BldI.nil (w3.alloc (.cells #[.int .i64 a, .slice none 0 0, .int .i64 (1 + b), .int .i64 (1 + c)] 35)) B; simpa [hBq] using this)
    go_wp2
    go_loopw [6] (fun z wr => ∃ (q : Nat) (v : Value) (zs : List Int) (hi : Nat) (W L : Int), z = .int .i64 q ∧ zs.length + q = 3 ∧ B ≤ hi ∧ Blk wr w3.heap.size #[.int .i64 a, v, .int .i64 W, .int .i64 L] 35 ∧ Hid (Blk wr w.heap.size #[.int .i64 0, .slice none 0 0, .int .i64 0, .int .i64 0] 35) ∧ Hid (BldI wr B hi v zs) ∧ Hid (Src1 W0 g sv n wr) ∧ Hid (Within g (g + 1) w wr)) (fun z _ => (intOf z).toNat)
    case atStart => exact ⟨3, .slice none 0 0, [], B, 1 + b, 1 + c, rfl, rfl, Nat.le_refl _, k5L, Lib.hid kZL, HBL, HDL, HWL⟩
    case round =>
      clear HDL HWL kZL k5L HBL
      obtain ⟨q, v, zs, hi, W, L, rfl, hzq, hBhi, k5, HZ, HB, HDr, HWr⟩ := hrel
      obtain ⟨av, cv, rfl⟩ := HB.out.sized
      have hhi := HB.out.1
      have l5 := k5.lt
      have c51 : wr.cell? ⟨w3.heap.size, 1, none⟩ = some (.slice av zs.length cv) := k5.cell 1
      by_cases hq : 0 < q
      · obtain ⟨r, rfl⟩ : ∃ r, q = r + 1 := ⟨q - 1, by omega⟩
        have i1 : (0 : Int) < ((r + 1 : Nat) : Int) := by omega
        have wq : IntKind.i64.wrap (((r + 1 : Nat) : Int) - 1) = (r : Int) := by simp [IntKind.wrap, IntKind.bits, IntKind.signed]; omega
        have hzl : zs.length ≤ 3 := by omega
        have HB2 := HB
        go_wp2
        go_region_law
          (first | (go_simp; go_at_call 18; refine (HN.out _ _ (HDr.out.by (below_of_drewN wr 1)) (by omega)).mono ?_; rintro e w5 ⟨y, rfl, hy0, hy1, hD5, ho5⟩; have HD5 := Lib.hid hD5; have k55 := ho5.within.blk k5.drew (by omega); have c55 : w5.cell? ⟨w3.heap.size, 1, none⟩ = some (.slice av zs.length cv) := k55.cell 1; have l55 := k55.lt; clear hD5; dsimp only) | (refine step_pushI (by rfl) _ _ (by rfl) B hi _ zs [y] (by rfl) ((BldI.only ho5 (HB2.out.by (below_of_drewN wr 1)) (by omega)).by (by ((repeat (first | (with_reducible exact Below.refl _ _) | (with_reducible refine below_drewN ?_ _) | (with_reducible refine Below.drew ?_) | (with_reducible refine below_al ?_ _) | (with_reducible refine below_on (by assumption) ?_) | ((with_reducible refine Below.setCell ?_ ?_ _); rotate_left; focus (first | omega | (simp; done) | (simp; omega))) | (with_reducible assumption))); done))) w5.heap.size 1 #[.int .i64 y] (by rfl) (by rfl) (by omega) (Blk.new _ rfl) (by rfl) (by omega) (by omega) ?_; intro a' c' w6 hB6 hw6; have HB6 := Lib.hid hB6; have k56 := hw6.blk (k55.past (.cells #[.int .i64 y] 2)) (by omega); have c56 : w6.cell? ⟨w3.heap.size, 1, none⟩ = some (.slice av zs.length cv) := k56.cell 1; have f56 : w6.frozen? ⟨w3.heap.size, 1, none⟩ = false := k56.free 1; have l56 := k56.lt; clear hB6))
        all_goals
          have hs6 := hw6.size
          simp only [World.size_alloc] at hs6
          have hs5 := ho5.within.size
          (try simp only [World.size_drew] at hs5)
          have hs5' : wr.heap.size ≤ w5.heap.size := hs5
          have HD6 := Lib.hid (Src1.within hw6 (HD5.out.by ((Below.refl _ w5).alloc (Nat.le_refl _) (.cells #[.int .i64 y] 2))) (by omega) (by have := HD.out.1; omega))
          have kZ6 := hw6.blk ((ho5.within.blk HZ.out.drew (by omega)).past (.cells #[.int .i64 y] 2)) (by omega)
          have HW6 := Lib.hid (((((HWr.out.drewN 1).on ho5.within).alloc (.cells #[.int .i64 y] 2)).newerM hw6 (by omega)))
          have HKZ := Lib.hid kZ6
          clear kZ6
          go_wp2
          all_goals first
            | refine ⟨⟨r, .slice a' (zs.length + 1) c', zs ++ [y], w6.heap.size, W, L, by first | rfl | (rw [wq]) | go_num, by simp <;> omega, by omega, by simpa using k56.set 1 _, Lib.hid (HKZ.out.apart _ _ _ (by omega)), Lib.hid (by simpa using HB6.out.past (Within.off _) (.inl (by omega))), Lib.hid (HD6.out.apart (by omega) (by have := HD.out.1; omega)), Lib.hid (HW6.out.new _ _ _ (by omega))⟩, by simp [intOf] <;> omega⟩
            | refine ⟨⟨r, rfl, .slice a' (zs.length + 1) c', zs ++ [y], by simp <;> omega, w6.heap.size, by omega, ⟨W, L, by simpa using k56.set 1 _⟩, Lib.hid (HKZ.out.apart _ _ _ (by omega)), Lib.hid (by simpa using HB6.out.past (Within.off _) (.inl (by omega))), Lib.hid (HD6.out.apart (by omega) (by have := HD.out.1; omega)), Lib.hid (HW6.out.new _ _ _ (by omega))⟩, by simp [intOf] <;> omega⟩
      · obtain rfl : q = 0 := by omega
        have i1 : ¬ (0 : Int) < ((0 : Nat) : Int) := by omega
        obtain ⟨f, hBf, hf1, hf2⟩ := HB.out.one (by omega)
        have HBF := Lib.hid hBf
        have kZr := HZ.out
        have c5 := k5.cell
        have cZ := kZr.cell
        have fZ := kZr.free
        have lZr := kZr.lt
        have hpl : 2 ≤ zs.length ∧ zs.length ≤ 3 := by omega
        clear hBf c51 HB hzq
        go_wp2
        refine bodyPost_ret (v := .agg #[.int .i64 a, .slice av zs.length cv, .int .i64 W, .int .i64 L]) (by simp [results, Try.results64, go_sem, *]) rfl ⟨⟨a, zs, W, L⟩, _, rfl, hpl, f, ?_, by omega, ?_, ?_⟩
        · exact (((HBF.out.past (Within.off _) (.inl (by omega))).past (Within.off _) (.inl (by omega))).past (Within.off _) (.inl (by omega))).past (Within.off _) (.inl (by omega))
        · exact (((HDr.out.apart (by omega) (by have := HD.out.1; omega)).apart (by omega) (by have := HD.out.1; omega)).apart (by omega) (by have := HD.out.1; omega)).apart (by omega) (by have := HD.out.1; omega)
        · exact (((HWr.out.new _ _ _ (by omega)).new _ _ _ (by omega)).new _ _ _ (by omega)).new _ _ _ (by omega)
end Go.Proofs.Ytdljbmfmmlcmmaa
