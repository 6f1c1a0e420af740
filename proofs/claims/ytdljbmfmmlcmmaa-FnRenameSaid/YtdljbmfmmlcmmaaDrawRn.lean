/- DrawRenameNets: some small netlist and some short list of names. -/
import Derived.Test.YtdljbmfmmlcmmaaDrawLads
import Derived.Test.YtdljbmfmmlcmmaaSrc
import Derived.Test.YtdljbmfmmlcmmaaDraw1
import Derived.Test.YtdljbmfmmlcmmaaDrawNl
import Derived.Deep.DeepCutAuto
namespace Go.Proofs.Ytdljbmfmmlcmmaa
open Go.RowKit
set_option linter.unusedVariables false
set_option linter.unusedSimpArgs false

theorem nlo_two {m G hi : Nat} {w w1 w' : World} {v : Value} {x : Nl} (h1 : Within G (G + 1) w w1) (h2 : Within w.heap.size hi w1 w') (hG : G < w.heap.size) (hGm : G + 1 ≤ m) (h : NlO m w v x) : NlO m w' v x := by
  have hlt : G < w'.heap.size := Nat.lt_of_lt_of_le hG (Nat.le_trans h1.size h2.size)
  obtain ⟨o, ho⟩ : ∃ o, w.heap[G]? = some o := ⟨_, Array.getElem?_eq_getElem hG⟩
  obtain ⟨wM, hM⟩ : ∃ wM : World, wM = { w' with heap := w'.heap.setIfInBounds G o } := ⟨_, rfl⟩
  have hsz : wM.heap.size = w'.heap.size := by rw [hM]; simp
  have b1 : Below w.heap.size w wM := ⟨by rw [hM]; exact h2.os.trans h1.os, by rw [hM]; exact h2.tape.trans h1.tape, by rw [hM]; exact h2.output.trans h1.output, by rw [hsz]; exact Nat.le_trans h1.size h2.size, fun k hk => by
    rw [hM]
    by_cases e : k = G
    · subst e; simp only [Array.getElem?_setIfInBounds, if_pos rfl, if_pos hlt, ho]; simp [hlt]
    · simp only [Array.getElem?_setIfInBounds, if_neg (fun q => e q.symm : ¬ G = k)]
      rw [h2.block k (Nat.lt_of_lt_of_le hk h1.size) (.inl hk), h1.block k hk (by omega)]⟩
  have b2 : Within G (G + 1) wM w' := ⟨by rw [hM], by rw [hM], by rw [hM], by rw [hsz]; exact Nat.le_refl _, fun k hk hne => by
    rw [hM]
    simp only [Array.getElem?_setIfInBounds, if_neg (show ¬ G = k by omega)]⟩
  exact (h.by b1).past b2 hGm
set_option maxRecDepth 100000 in
set_option maxHeartbeats 4000000 in
theorem drawRn_any (v0 : Value) (n : Nat) (w : World) (h : Bytes w v0 n) (hn : n ≤ 4096) :
    Calls Try.prog 6 #[v0] w fun e w' => ∃ (v sn : Value) (x : Nl) (zs : List Int), e = .returned (.tuple #[v, sn]) ∧ Hid (NlV w' v x) ∧ Hid (Small x) ∧ Hid (IntSl w' sn zs) ∧ zs.length ≤ 100 ∧ Below w.heap.size w w' := by
  have HB := Lib.hid h
  obtain ⟨w0, hw0⟩ : ∃ z, z = w.alloc (.cells #[.int .i64 0, .slice none 0 0, .slice none 0 0] 27) := ⟨_, rfl⟩
  have kR0 : Blk w0 w.heap.size #[.int .i64 0, .slice none 0 0, .slice none 0 0] 27 := by rw [hw0]; exact Blk.new _ rfl
  have hb0 : Below w.heap.size w w0 := by rw [hw0]; exact (Below.refl _ w).alloc (Nat.le_refl _) _
  have hs0 : w0.heap.size = w.heap.size + 1 := by rw [hw0]; simp
  have hf := l01From_any v0 n w0 (HB.out.by hb0) hn
  obtain ⟨G, hG⟩ : ∃ G, w0.heap.size = G := ⟨_, rfl⟩
  rw [hG] at hf hs0
  have HF := Lib.hid hf
  have HN := Lib.hid (fun m w h hm => l01Next_any w0 G v0 n m w h hm)
  have HDN := Lib.hid (fun w h => l27DrawNetlist_any w0 G v0 n w h)
  have HDO := Lib.hid (fun m hm w h => l27DrawOrder_any w0 G v0 n m hm w h)
  have hGw : w.heap.size < G := by omega
  have HG := Lib.hid hG
  clear h hf hs0 hG
  go_enter Try.func6, Try.ntmps6
  go_wp2_with fail
  (try rw [← hw0])
  clear hw0
  refine HF.out.mono ?_
  rintro e w1 ⟨rfl, hD1, hb1⟩
  have kR1 : Blk w1 w.heap.size _ 27 := Blk.by (by rw [HG.out]; exact hb1) kR0
  have HD1 := Lib.hid hD1
  have hG1 := hD1.lt
  clear hD1 hb1
  go_wp2_with fail
  refine (HDN.out _ HD1.out).mono ?_
  rintro e w2 ⟨v, x, rfl, HO, HS, HD2, HW2⟩
  obtain ⟨s1, s2, rfl, r1, r2⟩ := HO.out
  obtain ⟨a1, c1, rfl⟩ := NlO.s1 r1
  obtain ⟨a2, c2, rfl⟩ := NlO.s2 r2
  have kR2 := HW2.out.blk kR1 (by omega)
  have hb2 : Below w.heap.size w w2 := below_on HD2.out.2.1 hb0
  have hsz2 := HW2.out.size
  have hbA := (Below.refl _ w2).alloc (Nat.le_refl _) (.cells #[.int .i64 x.nets, .slice a1 x.ds.length c1, .slice a2 x.ps.length c2] 27)
  have kT3 : Blk (w2.alloc (.cells #[.int .i64 x.nets, .slice a1 x.ds.length c1, .slice a2 x.ps.length c2] 27)) w2.heap.size #[.int .i64 x.nets, .slice a1 x.ds.length c1, .slice a2 x.ps.length c2] 27 := Blk.new _ rfl
  have kR3 := kR2.past (.cells #[.int .i64 x.nets, .slice a1 x.ds.length c1, .slice a2 x.ps.length c2] 27)
  have HO3 := Lib.hid ((HO.out.low (show G + 1 ≤ w1.heap.size by omega)).by hbA)
  have HD3 := Lib.hid (HD2.out.by hbA)
  have hb3 := below_al hb2 (.cells #[.int .i64 x.nets, .slice a1 x.ds.length c1, .slice a2 x.ps.length c2] 27)
  clear HO HD2 HW2 kR1 kR2 hb2 r1 r2 kR0 hb0 HD1 hbA
  go_upto_region 3 with fail
  generalize w2.alloc (.cells #[.int .i64 x.nets, .slice a1 x.ds.length c1, .slice a2 x.ps.length c2] 27) = w3 at *
  obtain ⟨T, hT⟩ : ∃ T, w2.heap.size = T := ⟨_, rfl⟩
  (try rw [hT])
  rw [hT] at kT3 hsz2
  clear hT
  have hGT : G < T := by omega
  have cT := kT3.cell
  have lT := kT3.lt
  obtain ⟨⟨hx0, hx1⟩, _⟩ := HS.out
  have hW30 : Within G (G + 1) w3 w3 := Within.refl _ _ _
  have hG3 := HD3.out.lt
  go_cut [6] (fun s6 wx => ∃ a c zs, s6 = .slice a zs.length c ∧ zs.length ≤ 30 ∧ Hid (Within G (G + 1) w3 wx) ∧ Hid (Src1 w0 G v0 n wx) ∧ Hid (BldI wx w3.heap.size wx.heap.size (.slice a zs.length c) zs))
  case first =>
    by_cases h0 : 0 ≤ x.nets
    · obtain ⟨m, hm⟩ := Int.eq_ofNat_of_zero_le h0
      have hm2 : m ≤ 200 := by omega
      have HOm := Lib.hid (fun w h => HDO.out m hm2 w h)
      rw [hm] at cT
      have hm0 : (0 : Int) ≤ (m : Int) := by omega
      have HO0 := Lib.hid (fun w h => HDO.out 0 (by omega) w h)
      have hm30 : m ≤ 30 := by omega
      clear hm h0
      go_wp2_with fail
      all_goals first | (with_reducible refine (HOm.out _ HD3.out).mono ?_) | (refine (HO0.out _ HD3.out).mono ?_)
      all_goals
        rintro e wx ⟨v, zs, rfl, hzl, hB, hD, hW⟩
        have HB1 := Lib.hid hB
        have HD1 := Lib.hid hD
        have HW1 := Lib.hid hW
        obtain ⟨a, c, rfl⟩ := hB.sized
        have hz30 : zs.length ≤ 30 := by omega
        clear hB hD hW hzl
        go_wp2_with fail
        go_meet
        exact ⟨a, c, zs, rfl, hz30, HW1, HD1, HB1⟩
    · have HO0 := Lib.hid (fun w h => HDO.out 0 (by omega) w h)
      have hmn : x.nets < 0 := by omega
      have hmn2 : ¬ 0 < x.nets := by omega
      clear h0
      go_wp2_with fail
      all_goals (refine (HO0.out _ HD3.out).mono ?_)
      all_goals
        rintro e wx ⟨v, zs, rfl, hzl, hB, hD, hW⟩
        have HB1 := Lib.hid hB
        have HD1 := Lib.hid hD
        have HW1 := Lib.hid hW
        obtain ⟨a, c, rfl⟩ := hB.sized
        have hz30 : zs.length ≤ 30 := by omega
        clear hB hD hW hzl
        go_wp2_with fail
        go_meet
        exact ⟨a, c, zs, rfl, hz30, HW1, HD1, HB1⟩
  case rest =>
    obtain ⟨au, cu, zs, rfl, hz30, HW, HDc, HB⟩ := hcut
    obtain ⟨wy, rfl⟩ : ∃ z : World, z = wc := ⟨_, rfl⟩
    have hsy := HW.out.size
    have hGm : G + 1 ≤ G + 1 := Nat.le_refl _
    go_wp2_with fail
    refine (HN.out 12 _ HDc.out (by omega)).mono ?_
    rintro e w5 ⟨y, rfl, hy0, hy1, hD5, ho5⟩
    have HD5 := Lib.hid hD5
    have HB5 := Lib.hid (BldI.only ho5 HB.out hG3)
    have HW5 := Lib.hid (HW.out.on ho5.within)
    have hs5 := ho5.size
    have hsz5 := HB5.out.1
    have H5 := Lib.hid (show Hid (BldI w5 w3.heap.size w5.heap.size (.slice au zs.length cu) zs) from Lib.hid (by have := HB5.out; rw [← hs5] at this; exact this))
    have hs5a := Nat.le_of_eq hs5
    have hs5b := Nat.le_of_eq hs5.symm
    clear hD5 ho5 HW HDc HB HB5 hsz5 hs5
    have hW5s := HW5.out.size
    have hRT : w.heap.size < w3.heap.size := by omega
    by_cases hy : y = 0
    · subst hy
      clear hy0 hy1
      go_wp2_with fail
      refine (HN.out 4 _ HD5.out (by omega)).mono ?_
      rintro e w6 ⟨z, rfl, hz0, hz1, hD6, ho6⟩
      have HB6 := Lib.hid (BldI.only ho6 H5.out.out hG3)
      have HW6 := Lib.hid (HW5.out.on ho6.within)
      have hs6 := ho6.size
      have hs6a := Nat.le_of_eq hs6
      have hs6b := Nat.le_of_eq hs6.symm
      clear hD6 ho6 H5 HW5 hz0 hz1 hs6
      obtain ⟨ZL, hZL⟩ : ∃ q, zs.length = q := ⟨_, rfl⟩
      have HZL := Lib.hid hZL
      rw [hZL] at HB6 hz30
      (try rw [hZL])
      clear hZL
      go_wp2_with (refine list_pushI (by rfl) _ _ (by rfl) w3.heap.size w5.heap.size (.slice au ZL cu) zs [z] (by rfl) (HB6.out.by (by ((repeat (first | (with_reducible exact Below.refl _ _) | (with_reducible refine below_drewN ?_ _) | (with_reducible refine Below.drew ?_) | (with_reducible refine below_al ?_ _) | (with_reducible refine below_on (by assumption) ?_) | ((with_reducible refine Below.setCell ?_ ?_ _); rotate_left; focus (first | omega | (simp; done) | (simp; omega))) | (with_reducible assumption))); done))) w6.heap.size 1 #[.int .i64 z] (by rfl) (by rfl) (by omega) (Blk.new _ rfl) (by rfl) (by omega) (by rw [HZL.out]; omega) ?_; intro a7 c7 w7 hB7 hw7; have HB7 := Lib.hid hB7; have hw7' := hw7; rw [HZL.out]; clear hB7; have kT7 := hw7'.blk ((HW6.out.blk kT3 (by omega)).past (.cells #[.int .i64 z] 2)) (.inl lT); have kR7 := hw7'.blk ((HW6.out.blk kR3 (by omega)).past (.cells #[.int .i64 z] 2)) (by omega); have qT := kT7.cell; have lT7 := kT7.lt; have fR := kR7.free; have qR := kR7.cell; have lR7 := kR7.lt)
      have hW7 : Within w3.heap.size w5.heap.size (w6.alloc (.cells #[.int .i64 z] 2)) w7 := hw7'
      have HO7 := Lib.hid (nlo_two (Within.alloc HW6.out (.cells #[.int .i64 z] 2)) hw7' hG3 hGm HO3.out)
      have HN7 := Lib.hid HO7.out.nl
      have hbf : Below w.heap.size w w7 := hw7'.below (below_al (HW6.out.below hb3 (by omega)) _) (by omega)
      have HIS := Lib.hid (show IntSl w7 (.slice a7 (ZL + 1) c7) (zs ++ [z]) from (by have q := HB7.out.own.sl; rw [HZL.out] at q; exact q))
      clear kT7 kR7
      go_wp2
      refine bodyPost_ret (v := .tuple #[.agg #[.int .i64 x.nets, .slice a1 x.ds.length c1, .slice a2 x.ps.length c2], (.slice a7 (ZL + 1) c7)]) (by simp [results, Try.results6, go_sem, *]) rfl ⟨_, _, x, (zs ++ [z]), rfl, ?_, HS, ?_, ?_, ?_⟩
      · exact Lib.hid (((HO7.out.past (Within.off _) (by omega)).past (Within.off _) (by omega)).past (Within.off _) (by omega)).nl
      · have q := HB7.out
        rw [HZL.out] at q
        exact Lib.hid (((q.past (Within.off _) (by omega)).past (Within.off _) (by omega)).past (Within.off _) (by omega)).own.sl
      · rw [List.length_append, HZL.out]; simp; omega
      · repeat (first | (with_reducible exact hbf) | ((with_reducible refine Below.setCell ?_ ?_ _); rotate_left; focus (simp; try omega)))
    · have hyb : ((y : Int) == 0) = false := by simpa using hy
      clear hy
      have HO7 := Lib.hid (nlo_two (hi := w3.heap.size) HW5.out (Within.refl _ _ _) hG3 hGm HO3.out)
      have HN7 := Lib.hid HO7.out.nl
      have kT7 := HW5.out.blk kT3 (by omega)
      have kR7 := HW5.out.blk kR3 (by omega)
      have qT := kT7.cell
      have lT7 := kT7.lt
      have fR := kR7.free
      have qR := kR7.cell
      have lR7 := kR7.lt
      have hbf : Below w.heap.size w w5 := HW5.out.below hb3 (by omega)
      have HIS := Lib.hid (show IntSl w5 (.slice au zs.length cu) zs from H5.out.out.own.sl)
      clear kT7 kR7
      go_wp2
      refine bodyPost_ret (v := .tuple #[.agg #[.int .i64 x.nets, .slice a1 x.ds.length c1, .slice a2 x.ps.length c2], (.slice au zs.length cu)]) (by simp [results, Try.results6, go_sem, *]) rfl ⟨_, _, x, zs, rfl, ?_, HS, ?_, ?_, ?_⟩
      · exact Lib.hid (((HO7.out.past (Within.off _) (by omega)).past (Within.off _) (by omega)).past (Within.off _) (by omega)).nl
      · exact Lib.hid (((H5.out.out.past (Within.off _) (by omega)).past (Within.off _) (by omega)).past (Within.off _) (by omega)).own.sl
      · omega
      · repeat (first | (with_reducible exact hbf) | ((with_reducible refine Below.setCell ?_ ?_ _); rotate_left; focus (simp; try omega)))
end Go.Proofs.Ytdljbmfmmlcmmaa
