/- The walk of FnMoreResistors. -/
import Derived.Test.YtjolkdckhmmenaaDrawEr
import Derived.Test.YtjolkdckhmmenaaW9
import Derived.Test.YtjolkdckhmmenaaEr
import Derived.Test.YtjolkdckhmmenaaMoreA
import Derived.Test.YtjolkdckhmmenaaDice1
namespace Go.Proofs.Ytjolkdckhmmenaa.fnMoreResistors
open Go.RowKit Go.Proofs.Ytjolkdckhmmenaa
set_option linter.unusedVariables false
set_option linter.unusedSimpArgs false

set_option maxRecDepth 100000 in
set_option maxHeartbeats 8000000 in
theorem walk (v0 : Value) (w : World) (n : Nat) (hB : Bytes w v0 n) :
    Calls Try.prog 5 #[v0] w fun e w' => e = .returned (.bool true) ∧ Below w.heap.size w w' := by
  have HB := Lib.hid hB
  have HBG := Lib.hid (fun w h => big_any v0 n w h)
  by_cases hn : 4096 < n
  · rw [decide_eq_true hn] at HBG
    clear hB hn
    go_enter Try.func5, Try.ntmps5
    go_wp2_with fail
    refine (HBG.out _ HB.out).mono ?_
    rintro e w1 ⟨rfl, rfl⟩
    go_wp2
    go_ret
    exact ⟨rfl, Below.refl _ _⟩
  · rw [decide_eq_false hn] at HBG
    have HDR := Lib.hid (fun w h => drawEr_any v0 n w h (by omega))
    have HN4 := Lib.hid hn
    clear hB hn
    go_enter Try.func5, Try.ntmps5
    go_wp2_with fail
    refine (HBG.out _ HB.out).mono ?_
    rintro e w1 ⟨rfl, rfl⟩
    go_wp2_with fail
    refine (roll_any v0 n 2602 _ HB.out).mono ?_
    rintro e w1 ⟨rfl, ⟨x0, hx0⟩, hb1⟩
    have HD1 := Lib.hid (dice_of_roll (Below.refl _ _) HB.out (by have := HN4.out; omega) hx0 hb1)
    clear hx0
    go_wp2_with fail
    refine (HDR.out _ (HB.out.by hb1)).mono ?_
    rintro e w2 ⟨x, rv, a, b, rfl, HR2, HX, hab, hbb, hb12⟩
    have HD2 := Lib.hid (HD1.out.by hb12)
    have hb2 := below_on hb12 hb1
    have hDl := HD2.out.lt
    obtain ⟨G, hG⟩ : ∃ G, w.heap.size = G := ⟨_, rfl⟩
    obtain ⟨ar, cr, rfl⟩ := HR2.out.len
    obtain ⟨N, hN⟩ : ∃ N, x.nodes = N := ⟨_, rfl⟩
    obtain ⟨L, hL⟩ : ∃ L, x.rs.length = L := ⟨_, rfl⟩
    have hNb : 0 ≤ N ∧ N ≤ 7 := by have := HX.out.1; omega
    have hLb : 0 < L ∧ L ≤ 16 := by have := HX.out.2.1; omega
    have HV2 : Hid (NwV w2 (.agg #[.int .i64 N, .slice ar L cr]) x) := Lib.hid ⟨.slice ar L cr, by rw [hN], by have := HR2.out; rw [hL] at this; exact this⟩
    have H1 := fun w h => implEr_any x a b (.agg #[.int .i64 N, .slice ar L cr]) w h HX.out.2.2 (by unfold Fits; have := HX.out.1; omega)
    have H2 := fun w h => specEr_any x a b (.agg #[.int .i64 N, .slice ar L cr]) w h HX.out.2.2 (by unfold Fits; have := HX.out.1; omega)
    have HY := Lib.hid (fun (h : nkC x a b = 0) => er_yes h)
    have HML := Lib.hid (fun (h : nkC x a b = 0) r hv => more_law h r hv)
    rw [hN, hL]
    have HNn := Lib.hid hN
    have HLn := Lib.hid hL
    have HGn := Lib.hid hG
    clear hN hL HR2 hb12 HD1 hb1 hG
    generalize hX : (erS x a b).n = X at *
    generalize hY : (erS x a b).d = Y at *
    generalize hC : nkC x a b = C at *
    have H1 := Lib.hid H1
    have H2 := Lib.hid H2
    have HXE := Lib.hid hX
    have HYE := Lib.hid hY
    have HCE := Lib.hid hC
    clear hX hY hC
    have hal : Below w2.heap.size w2 (w2.alloc (.cells #[.int .i64 N, .slice ar L cr] 26)) := (Below.refl _ w2).alloc (Nat.le_refl _) _
    have kT3 : Blk (w2.alloc (.cells #[.int .i64 N, .slice ar L cr] 26)) w2.heap.size #[.int .i64 N, .slice ar L cr] 26 := Blk.new _ rfl
    have HV3 := Lib.hid ((HV2.out).by hal)
    have HD3 := Lib.hid ((HD2.out).by hal)
    have hb3 : Below w.heap.size w (w2.alloc (.cells #[.int .i64 N, .slice ar L cr] 26)) := below_on hal (hb2)
    clear hal HV2 HD2 hb2
    have qT := kT3.cell
    have lT := kT3.lt
    go_wp2_with fail
    generalize w2.alloc (.cells #[.int .i64 N, .slice ar L cr] 26) = w3 at *
    generalize w2.heap.size = T at *
    have hTl := kT3.lt
    refine (H1.out _ HV3.out).mono ?_
    rintro e w4 ⟨rfl, hb4⟩
    have hs4 := hb4.size
    have hal : Below w4.heap.size w4 (w4.alloc (.cells #[.int .i64 X, .int .i64 Y] 30)) := (Below.refl _ w4).alloc (Nat.le_refl _) _
    have kR5 : Blk (w4.alloc (.cells #[.int .i64 X, .int .i64 Y] 30)) w4.heap.size #[.int .i64 X, .int .i64 Y] 30 := Blk.new _ rfl
    have kT5 := Blk.by hal (Blk.by hb4 kT3)
    have HV5 := Lib.hid ((HV3.out.by hb4).by hal)
    have HD5 := Lib.hid ((HD3.out.by hb4).by hal)
    have hb5 : Below w.heap.size w (w4.alloc (.cells #[.int .i64 X, .int .i64 Y] 30)) := below_on hal (below_on hb4 hb3)
    clear qT lT hb4 kT3 HV3 HD3 hb3 hal
    have qT := kT5.cell
    have lT := kT5.lt
    have qR := kR5.cell
    have lR := kR5.lt
    go_wp2_with fail
    generalize w4.alloc (.cells #[.int .i64 X, .int .i64 Y] 30) = w5 at *
    generalize w4.heap.size = R at *
    refine (H2.out _ HV5.out).mono ?_
    rintro e w6 ⟨rfl, hb6⟩
    have hs6 := hb6.size
    have hal : Below w6.heap.size w6 (w6.alloc (.cells #[.int .i64 X, .int .i64 Y] 30)) := (Below.refl _ w6).alloc (Nat.le_refl _) _
    have kS7 : Blk (w6.alloc (.cells #[.int .i64 X, .int .i64 Y] 30)) w6.heap.size #[.int .i64 X, .int .i64 Y] 30 := Blk.new _ rfl
    have kT7 := Blk.by hal (Blk.by hb6 kT5)
    have kR7 := Blk.by hal (Blk.by hb6 kR5)
    have HV7 := Lib.hid ((HV5.out.by hb6).by hal)
    have HD7 := Lib.hid ((HD5.out.by hb6).by hal)
    have hb7 : Below w.heap.size w (w6.alloc (.cells #[.int .i64 X, .int .i64 Y] 30)) := below_on hal (below_on hb6 hb5)
    clear qT lT qR lR hb6 kT5 kR5 HV5 HD5 hb5 hal
    have qT := kT7.cell
    have lT := kT7.lt
    have qR := kR7.cell
    have lR := kR7.lt
    have qS := kS7.cell
    have lS := kS7.lt
    by_cases hC0 : C = 0
    · by_cases hN2 : N < 2
      · go_wp2
        go_ret
        exact ⟨rfl, hb7⟩
      · subst hC0
        go_upto_region 11 with fail
        generalize w6.alloc (.cells #[.int .i64 X, .int .i64 Y] 30) = w7 at *
        generalize w6.heap.size = S at *
        have cT0 : w7.cell? ⟨T, 0, none⟩ = some (.int .i64 N) := kT7.cell 0
        have cT1 : w7.cell? ⟨T, 1, none⟩ = some (.slice ar L cr) := kT7.cell 1
        have HRS := Lib.hid (show ResSl w7 (.slice ar L cr) x.rs from by obtain ⟨sv, e, h⟩ := HV7.out; injection e with e; simp at e; obtain ⟨_, rfl⟩ := e; exact h)
        go_cut [11] (fun s11 wx => ∃ (M g : Nat) (c' : Nat), s11 = .pointer (some ⟨M, 0, none⟩) ∧ Hid (Blk wx M #[.int .i64 N, .slice (some ⟨g, 0, none⟩) L c'] 26) ∧ Hid (BldRes wx g (g + 1) (.slice (some ⟨g, 0, none⟩) L c') x.rs) ∧ w7.heap.size ≤ M ∧ w7.heap.size ≤ g ∧ g ≠ M ∧ Hid (Below w7.heap.size w7 wx))
        case first =>
          have hS : (fun w' : World => w'.cell? ⟨T, 0, none⟩ = some (.int .i64 N) ∧ w'.cell? ⟨T, 1, none⟩ = some (.slice ar L cr)) { w7 with drawn := w7.drawn + 1 } := ⟨cT0, cT1⟩
          refine wp_region_any (by kernel_rfl) (wpAny_of_E (S := (fun w' : World => w'.cell? ⟨T, 0, none⟩ = some (.int .i64 N) ∧ w'.cell? ⟨T, 1, none⟩ = some (.slice ar L cr))) (l := 8) _ _ _ _ ?_)
          change wpAnyE _ _ _ _ _ _ _ _ _ w7.drew
          refine wpAnyE_take (i := 0) (v := ?_) rfl (by kernel_rfl) (fun _ _ _ h => h) (Or.inl ⟨by rfl, ?_⟩) hS ?_
          rotate_left
          · intro w hSw; (try dsimp only at hSw); obtain ⟨hSw1, hSw2⟩ := hSw; go_simp; (try with_reducible rfl)
          try simp only [Act.put, List.setIfInBounds_toArray, List.set_cons_zero, List.set_cons_succ]
          refine wpAnyE_take (i := 1) (v := ?_) rfl (by kernel_rfl) (fun _ _ _ h => h) (Or.inl ⟨by rfl, ?_⟩) hS ?_
          rotate_left
          · intro w hSw; (try dsimp only at hSw); obtain ⟨hSw1, hSw2⟩ := hSw; go_simp; (try with_reducible rfl)
          try simp only [Act.put, List.setIfInBounds_toArray, List.set_cons_zero, List.set_cons_succ]
          refine wpAnyE_take (i := 3) (v := ?_) rfl (by kernel_rfl) (fun _ _ _ h => h) (Or.inl ⟨by rfl, ?_⟩) hS ?_
          rotate_left
          · intro w hSw; (try dsimp only at hSw); obtain ⟨hSw1, hSw2⟩ := hSw; go_simp; (try with_reducible rfl)
          try simp only [Act.put, List.setIfInBounds_toArray, List.set_cons_zero, List.set_cons_succ]
          refine wpAnyE_take (i := 4) (v := ?_) rfl (by kernel_rfl) (fun _ _ _ h => h) (Or.inl ⟨by rfl, ?_⟩) hS ?_
          rotate_left
          · intro w hSw; (try dsimp only at hSw); obtain ⟨hSw1, hSw2⟩ := hSw; go_simp; (try with_reducible rfl)
          try simp only [Act.put, List.setIfInBounds_toArray, List.set_cons_zero, List.set_cons_succ]
          have HBW : Hid (Below w7.heap.size w7 w7.drew) := Lib.hid ((Below.refl w7.heap.size w7).drew)
          refine wpAnyE_two (k := 2) (k' := 7) (by kernel_rfl) rfl rfl (fun K hK => ?_) (fun K hK => ?_)
          · go_simp
            have HBN := Lib.hid (show Below w7.heap.size w7 (w7.alloc (.cells #[] 39)).drew from ((Below.refl _ w7).alloc (Nat.le_refl _) _).drew)
            have kE : Blk (w7.alloc (.cells #[] 39)).drew w7.heap.size #[] 39 := (Blk.new _ rfl).drew
            have hs' : w7.heap.size < (w7.alloc (.cells #[] 39)).drew.heap.size := by simp
            refine hK.out _ _ (fun _ => ⟨cell_by' HBN.out cT0, cell_by' HBN.out cT1⟩) ?_
            try simp only [Act.put, List.setIfInBounds_toArray, List.set_cons_zero, List.set_cons_succ]
            generalize (w7.alloc (.cells #[] 39)).drew = w8 at *
            obtain ⟨E0, hzE0⟩ : ∃ z, w7.heap.size = z := ⟨_, rfl⟩
            (try rw [hzE0])
            rw [hzE0] at hs' kE
            have hE0 : w7.heap.size ≤ E0 := by omega
            clear HBW
            have HBW := Lib.hid HBN.out
            clear HBN hzE0
            refine wpAnyE_two (k := 5) (k' := 7) (by kernel_rfl) rfl rfl (fun K hK => ?_) (fun K hK => ?_)
            · have hR := (HRS.out.by HBW.out)
              refine step_copyRes (by rfl) _ _ (by rfl) E0 (by rfl) kE (.slice ar L cr) x.rs (by rfl) hR (by rw [HLn.out]; omega) (by rw [HLn.out]; omega) ?_
              intro g c' w9 hg hB hw
              rw [HLn.out] at hB ⊢
              have hBW : Below w7.heap.size w7 w9 := hw.below HBW.out hE0
              have hg7 : w7.heap.size ≤ g := by have := HBW.out.size; rcases hg with h | h <;> omega
              have HB9 := Lib.hid hB
              refine hK.out _ _ (fun _ => ⟨cell_by' hBW cT0, cell_by' hBW cT1⟩) ?_
              try simp only [Act.put, List.setIfInBounds_toArray, List.set_cons_zero, List.set_cons_succ]
              have hsg := hw.size
              clear hB hw hR HBW kE
              have HBW := Lib.hid hBW
              clear hBW
              have hgs : g < w9.heap.size := by have := HB9.out.1; omega
              refine wpAnyE_take (i := 6) (v := ?_) rfl (by kernel_rfl) (fun _ _ _ h => h) (Or.inl ⟨by rfl, ?_⟩) ⟨cell_by' HBW.out cT0, cell_by' HBW.out cT1⟩ ?_
              rotate_left
              · intro w hSw; (try dsimp only at hSw); obtain ⟨hSw1, hSw2⟩ := hSw; go_simp; (try with_reducible rfl)
              try simp only [Act.put, List.setIfInBounds_toArray, List.set_cons_zero, List.set_cons_succ]
              refine wpAnyE_one (k := 7) (by kernel_rfl) rfl (fun K hK => ?_)
              go_simp
              have hal : Below w9.heap.size w9 (w9.alloc (.cells #[.int .i64 0, .slice none 0 0] 26)) := (Below.refl _ w9).alloc (Nat.le_refl _) _
              have kM : Blk (w9.alloc (.cells #[.int .i64 0, .slice none 0 0] 26)) w9.heap.size #[.int .i64 0, .slice none 0 0] 26 := Blk.new _ rfl
              have HBN := Lib.hid (Below.trans HBW.out (hal.mono HBW.out.size))
              have HB9' := Lib.hid (BldRes.by hal HB9.out)
              clear HB9
              have HB9 := Lib.hid HB9'.out
              have hM0 : w7.heap.size ≤ w9.heap.size := HBW.out.size
              have hsM : w9.heap.size < (w9.alloc (.cells #[.int .i64 0, .slice none 0 0] 26)).heap.size := by simp
              refine hK.out _ _ (fun _ => ⟨cell_by' HBN.out cT0, cell_by' HBN.out cT1⟩) ?_
              try simp only [Act.put, List.setIfInBounds_toArray, List.set_cons_zero, List.set_cons_succ]
              generalize (w9.alloc (.cells #[.int .i64 0, .slice none 0 0] 26)) = w10 at *
              generalize w9.heap.size = M at *
              clear hal HBW
              have HBW := Lib.hid HBN.out
              clear HBN
              refine wpAnyE_one (k := 8) (by kernel_rfl) rfl (fun K hK => ?_)
              have cM0 := kM.cell
              have fM0 := kM.free
              have lM0 := kM.lt
              go_simp
              refine hK.out _ _ (fun h => absurd rfl h) ?_
              refine wpAnyE_done (by kernel_rfl) ?_ _
              clear hS
              go_wp2
              go_meet
              exact ⟨M, g, c', rfl, Lib.hid kM.set2, Lib.hid (BldRes.past (Within.off (g := M) _) (BldRes.past (Within.off (g := M) _) HB9.out (by omega)) (by omega)), by omega, by omega, by omega, Lib.hid ((HBW.out.setCell (by omega) _).setCell (by omega) _)⟩
            · go_simp
              have hal : Below w8.heap.size w8 (w8.alloc (.cells #[.int .i64 0, .slice none 0 0] 26)) := (Below.refl _ w8).alloc (Nat.le_refl _) _
              have kM : Blk (w8.alloc (.cells #[.int .i64 0, .slice none 0 0] 26)) w8.heap.size #[.int .i64 0, .slice none 0 0] 26 := Blk.new _ rfl
              have HBN := Lib.hid (Below.trans HBW.out (hal.mono HBW.out.size))
              replace kE := Blk.by hal kE
              have hM0 : w7.heap.size ≤ w8.heap.size := HBW.out.size
              have hsM : w8.heap.size < (w8.alloc (.cells #[.int .i64 0, .slice none 0 0] 26)).heap.size := by simp
              refine hK.out _ _ (fun _ => ⟨cell_by' HBN.out cT0, cell_by' HBN.out cT1⟩) ?_
              try simp only [Act.put, List.setIfInBounds_toArray, List.set_cons_zero, List.set_cons_succ]
              generalize (w8.alloc (.cells #[.int .i64 0, .slice none 0 0] 26)) = w9 at *
              generalize w8.heap.size = M at *
              clear hal HBW
              have HBW := Lib.hid HBN.out
              clear HBN
              refine wpAnyE_one (k := 5) (by kernel_rfl) rfl (fun K hK => ?_)
              have hR := (HRS.out.by HBW.out)
              refine step_copyRes (by rfl) _ _ (by rfl) E0 (by rfl) kE (.slice ar L cr) x.rs (by rfl) hR (by rw [HLn.out]; omega) (by rw [HLn.out]; omega) ?_
              intro g c' w10 hg hB hw
              rw [HLn.out] at hB ⊢
              have kM : Blk _ M _ 26 := hw.blk kM (by omega)
              have hBW : Below w7.heap.size w7 w10 := hw.below HBW.out hE0
              have hg7 : w7.heap.size ≤ g := by have := HBW.out.size; rcases hg with h | h <;> omega
              have HB9 := Lib.hid hB
              refine hK.out _ _ (fun _ => ⟨cell_by' hBW cT0, cell_by' hBW cT1⟩) ?_
              try simp only [Act.put, List.setIfInBounds_toArray, List.set_cons_zero, List.set_cons_succ]
              have hsg := hw.size
              clear hB hw hR HBW kE
              have HBW := Lib.hid hBW
              clear hBW
              refine wpAnyE_take (i := 6) (v := ?_) rfl (by kernel_rfl) (fun _ _ _ h => h) (Or.inl ⟨by rfl, ?_⟩) ⟨cell_by' HBW.out cT0, cell_by' HBW.out cT1⟩ ?_
              rotate_left
              · intro w hSw; (try dsimp only at hSw); obtain ⟨hSw1, hSw2⟩ := hSw; go_simp; (try with_reducible rfl)
              try simp only [Act.put, List.setIfInBounds_toArray, List.set_cons_zero, List.set_cons_succ]
              refine wpAnyE_one (k := 8) (by kernel_rfl) rfl (fun K hK => ?_)
              have cM0 := kM.cell
              have fM0 := kM.free
              have lM0 := kM.lt
              go_simp
              refine hK.out _ _ (fun h => absurd rfl h) ?_
              refine wpAnyE_done (by kernel_rfl) ?_ _
              clear hS
              go_wp2
              go_meet
              exact ⟨M, g, c', rfl, Lib.hid kM.set2, Lib.hid (BldRes.past (Within.off (g := M) _) (BldRes.past (Within.off (g := M) _) HB9.out (by omega)) (by omega)), by omega, by omega, by omega, Lib.hid ((HBW.out.setCell (by omega) _).setCell (by omega) _)⟩
          · go_simp
            have HBN := Lib.hid (show Below w7.heap.size w7 (w7.alloc (.cells #[.int .i64 0, .slice none 0 0] 26)).drew from ((Below.refl _ w7).alloc (Nat.le_refl _) _).drew)
            have kM : Blk (w7.alloc (.cells #[.int .i64 0, .slice none 0 0] 26)).drew w7.heap.size #[.int .i64 0, .slice none 0 0] 26 := (Blk.new _ rfl).drew
            have hs' : w7.heap.size < (w7.alloc (.cells #[.int .i64 0, .slice none 0 0] 26)).drew.heap.size := by simp
            refine hK.out _ _ (fun _ => ⟨cell_by' HBN.out cT0, cell_by' HBN.out cT1⟩) ?_
            try simp only [Act.put, List.setIfInBounds_toArray, List.set_cons_zero, List.set_cons_succ]
            generalize (w7.alloc (.cells #[.int .i64 0, .slice none 0 0] 26)).drew = w8 at *
            obtain ⟨M, hzM⟩ : ∃ z, w7.heap.size = z := ⟨_, rfl⟩
            (try rw [hzM])
            rw [hzM] at hs' kM
            have hM0 : w7.heap.size ≤ M := by omega
            clear HBW
            have HBW := Lib.hid HBN.out
            clear HBN hzM
            refine wpAnyE_one (k := 2) (by kernel_rfl) rfl (fun K hK => ?_)
            go_simp
            have hal : Below w8.heap.size w8 (w8.alloc (.cells #[] 39)) := (Below.refl _ w8).alloc (Nat.le_refl _) _
            have kE : Blk (w8.alloc (.cells #[] 39)) w8.heap.size #[] 39 := Blk.new _ rfl
            have HBN := Lib.hid (Below.trans HBW.out (hal.mono HBW.out.size))
            have kM := Blk.by hal kM
            have hE0 : w7.heap.size ≤ w8.heap.size := HBW.out.size
            have hs' : w8.heap.size < (w8.alloc (.cells #[] 39)).heap.size := by simp
            refine hK.out _ _ (fun _ => ⟨cell_by' HBN.out cT0, cell_by' HBN.out cT1⟩) ?_
            try simp only [Act.put, List.setIfInBounds_toArray, List.set_cons_zero, List.set_cons_succ]
            generalize (w8.alloc (.cells #[] 39)) = w9 at *
            generalize w8.heap.size = E0 at *
            clear hal HBW
            have HBW := Lib.hid HBN.out
            clear HBN
            refine wpAnyE_one (k := 5) (by kernel_rfl) rfl (fun K hK => ?_)
            have hR := (HRS.out.by HBW.out)
            refine step_copyRes (by rfl) _ _ (by rfl) E0 (by rfl) kE (.slice ar L cr) x.rs (by rfl) hR (by rw [HLn.out]; omega) (by rw [HLn.out]; omega) ?_
            intro g c' w10 hg hB hw
            rw [HLn.out] at hB ⊢
            have kM : Blk _ M _ 26 := hw.blk kM (by omega)
            have hBW : Below w7.heap.size w7 w10 := hw.below HBW.out hE0
            have hg7 : w7.heap.size ≤ g := by have := HBW.out.size; rcases hg with h | h <;> omega
            have HB9 := Lib.hid hB
            refine hK.out _ _ (fun _ => ⟨cell_by' hBW cT0, cell_by' hBW cT1⟩) ?_
            try simp only [Act.put, List.setIfInBounds_toArray, List.set_cons_zero, List.set_cons_succ]
            have hsg := hw.size
            clear hB hw hR HBW kE
            have HBW := Lib.hid hBW
            clear hBW
            refine wpAnyE_take (i := 6) (v := ?_) rfl (by kernel_rfl) (fun _ _ _ h => h) (Or.inl ⟨by rfl, ?_⟩) ⟨cell_by' HBW.out cT0, cell_by' HBW.out cT1⟩ ?_
            rotate_left
            · intro w hSw; (try dsimp only at hSw); obtain ⟨hSw1, hSw2⟩ := hSw; go_simp; (try with_reducible rfl)
            try simp only [Act.put, List.setIfInBounds_toArray, List.set_cons_zero, List.set_cons_succ]
            refine wpAnyE_one (k := 8) (by kernel_rfl) rfl (fun K hK => ?_)
            have cM0 := kM.cell
            have fM0 := kM.free
            have lM0 := kM.lt
            go_simp
            refine hK.out _ _ (fun h => absurd rfl h) ?_
            refine wpAnyE_done (by kernel_rfl) ?_ _
            clear hS
            go_wp2
            go_meet
            exact ⟨M, g, c', rfl, Lib.hid kM.set2, Lib.hid (BldRes.past (Within.off (g := M) _) (BldRes.past (Within.off (g := M) _) HB9.out (by omega)) (by omega)), by omega, by omega, by omega, Lib.hid ((HBW.out.setCell (by omega) _).setCell (by omega) _)⟩
        case rest =>
          obtain ⟨M, g, c', rfl, HMc, HBc, hM7, hg7, hgM, HBel⟩ := hcut
          obtain ⟨wy, rfl⟩ : ∃ z : World, z = wc := ⟨_, rfl⟩
          have hbc : Below w.heap.size w wy := below_on HBel.out hb7
          have kTc := Blk.by HBel.out kT7
          have kRc := Blk.by HBel.out kR7
          have HDc := Lib.hid (HD7.out.by HBel.out)
          have hT7 := kT7.lt
          have hR7 := kR7.lt
          have hwT : w.heap.size < T := by omega
          have hwR : w.heap.size < R := by omega
          have hw7 : w.heap.size < w7.heap.size := by omega
          have cT0c : wy.cell? ⟨T, 0, none⟩ = some (.int .i64 N) := kTc.cell 0
          have lTc := kTc.lt
          have HHS := Lib.hid HBel.out.size
          clear cT0 cT1 qR lR qT lT qS lS kT7 kR7 kS7 HV7 HD7 hb7 HRS HBel
          go_wp2_with fail
          refine (below_any w _ v0 n N _ HDc.out (by omega) (by omega)).mono ?_
          rintro e w8 ⟨va, rfl, va0, va1, hD8, ho8⟩
          have HD8 := Lib.hid hD8
          have kT8 := ho8.blk kTc (by omega)
          have kR8 := ho8.blk kRc (by omega)
          have HM8 := Lib.hid (ho8.blk HMc.out (by omega))
          have HB8 := Lib.hid (BldRes.past ho8.within2 HBc.out (by omega))
          have hb8 := ho8.below hbc (Nat.le_refl _)
          have hs8 := ho8.within2.size
          clear hD8 ho8 HDc kTc kRc HMc HBc hbc cT0c lTc
          go_wp2_with fail
          refine (below_any w _ v0 n 9 _ HD8.out (by omega) (by omega)).mono ?_
          rintro e w9 ⟨vb, rfl, vb0, vb1, hD9, ho9⟩
          have hs9 := ho9.within2.size
          have HD9 := Lib.hid hD9
          have kT9 := ho9.blk kT8 (by omega)
          have kR9 := ho9.blk kR8 (by omega)
          have HM9 := Lib.hid (ho9.blk HM8.out (by omega))
          have HB9 := Lib.hid (BldRes.past ho9.within2 HB8.out (by omega))
          have hb9 := ho9.below hb8 (Nat.le_refl _)
          have wvb := wrap_i64 (1 + vb) (by omega) (by omega)
          clear hD9 ho9 HD8 kT8 kR8 HM8 HB8 hb8
          have hal : Below w9.heap.size w9 (w9.alloc (.cells #[.int .i64 va, .int .i64 0, .int .i64 (1 + vb), .int .i64 1] 39)) := (Below.refl _ w9).alloc (Nat.le_refl _) _
          have kP : Blk (w9.alloc (.cells #[.int .i64 va, .int .i64 0, .int .i64 (1 + vb), .int .i64 1] 39)) w9.heap.size #[.int .i64 va, .int .i64 0, .int .i64 (1 + vb), .int .i64 1] 39 := Blk.new _ rfl
          have kTa := Blk.by hal (kT9)
          have kRa := Blk.by hal (kR9)
          have HDa := Lib.hid ((HD9.out).by hal)
          have HMa := Lib.hid (Blk.by hal HM9.out)
          have hba : Below w.heap.size w (w9.alloc (.cells #[.int .i64 va, .int .i64 0, .int .i64 (1 + vb), .int .i64 1] 39)) := below_on hal (hb9)
          have HBa := Lib.hid (BldRes.by hal HB9.out)
          have hPs : w7.heap.size ≤ w9.heap.size := by have := HHS.out; omega
          have hgP : g < w9.heap.size := by have := HB9.out.1; omega
          have hMP := HM9.out.lt
          have cTa : (w9.alloc (.cells #[.int .i64 va, .int .i64 0, .int .i64 (1 + vb), .int .i64 1] 39)).cell? ⟨T, 0, none⟩ = some (.int .i64 N) := kTa.cell 0
          have cP0 : (w9.alloc (.cells #[.int .i64 va, .int .i64 0, .int .i64 (1 + vb), .int .i64 1] 39)).cell? ⟨w9.heap.size, 0, none⟩ = some (.int .i64 va) := kP.cell 0
          have lTa := kTa.lt
          have lPa := kP.lt
          clear kT9 kR9 HD9 HM9 HB9 hb9 hal
          go_upto_region 13 with fail
          generalize w9.alloc (.cells #[.int .i64 va, .int .i64 0, .int .i64 (1 + vb), .int .i64 1] 39) = wa at *
          generalize w9.heap.size = P at *
          have hPM : ¬ P = T := by omega
          have hPM2 : ¬ T = P := by omega
          have wva := wrap_i64 (va + 1) (by omega) (by omega)
          have wN1 := wrap_i64 (N - 1) (by omega) (by omega)
          have hS : (fun w' : World => w'.cell? ⟨P, 0, none⟩ = some (.int .i64 va) ∧ w'.cell? ⟨T, 0, none⟩ = some (.int .i64 N)) { wa with drawn := wa.drawn + 1 } := ⟨cP0, cTa⟩
          refine wp_region_any (by kernel_rfl) (wpAny_of_E (S := (fun w' : World => w'.cell? ⟨P, 0, none⟩ = some (.int .i64 va) ∧ w'.cell? ⟨T, 0, none⟩ = some (.int .i64 N))) (l := 13) _ _ _ _ ?_)
          change wpAnyE _ _ _ _ _ _ _ _ _ wa.drew
          refine wpAnyE_take (i := 0) (v := ?_) rfl (by kernel_rfl) (fun _ _ _ h => h) (Or.inl ⟨by rfl, ?_⟩) hS ?_
          rotate_left
          · intro w hSw; (try dsimp only at hSw); obtain ⟨hSw1, hSw2⟩ := hSw; go_simp; (try with_reducible rfl)
          try simp only [Act.put, List.setIfInBounds_toArray, List.set_cons_zero, List.set_cons_succ]
          refine wpAnyE_take (i := 1) (v := ?_) rfl (by kernel_rfl) (fun _ _ _ h => h) (Or.inl ⟨by rfl, ?_⟩) hS ?_
          rotate_left
          · intro w hSw; (try dsimp only at hSw); obtain ⟨hSw1, hSw2⟩ := hSw; go_simp; (try with_reducible rfl)
          try simp only [Act.put, List.setIfInBounds_toArray, List.set_cons_zero, List.set_cons_succ]
          refine wpAnyE_take (i := 2) (v := ?_) rfl (by kernel_rfl) (fun _ _ _ h => h) (Or.inl ⟨by rfl, ?_⟩) hS ?_
          rotate_left
          · intro w hSw; (try dsimp only at hSw); obtain ⟨hSw1, hSw2⟩ := hSw; go_simp; (try with_reducible rfl)
          try simp only [Act.put, List.setIfInBounds_toArray, List.set_cons_zero, List.set_cons_succ]
          refine wpAnyE_take (i := 3) (v := ?_) rfl (by kernel_rfl) (fun _ _ _ h => h) (Or.inl ⟨by rfl, ?_⟩) hS ?_
          rotate_left
          · intro w hSw; (try dsimp only at hSw); obtain ⟨hSw1, hSw2⟩ := hSw; go_simp; (try with_reducible rfl)
          try simp only [Act.put, List.setIfInBounds_toArray, List.set_cons_zero, List.set_cons_succ]
          refine wpAnyE_take (i := 4) (v := ?_) rfl (by kernel_rfl) (fun _ _ _ h => h) (Or.inl ⟨by rfl, ?_⟩) hS ?_
          rotate_left
          · intro w hSw; (try dsimp only at hSw); obtain ⟨hSw1, hSw2⟩ := hSw; go_simp; (try with_reducible rfl)
          try simp only [Act.put, List.setIfInBounds_toArray, List.set_cons_zero, List.set_cons_succ]
          refine wpAnyE_take (i := 5) (v := ?_) rfl (by kernel_rfl) (fun _ _ _ h => h) (Or.inl ⟨by rfl, ?_⟩) hS ?_
          rotate_left
          · intro w hSw; (try dsimp only at hSw); obtain ⟨hSw1, hSw2⟩ := hSw; go_simp; (try with_reducible rfl)
          try simp only [Act.put, List.setIfInBounds_toArray, List.set_cons_zero, List.set_cons_succ]
          refine wpAnyE_take (i := 6) (v := ?_) rfl (by kernel_rfl) (fun _ _ _ h => h) (Or.inl ⟨by rfl, ?_⟩) hS ?_
          rotate_left
          · intro w hSw; (try dsimp only at hSw); obtain ⟨hSw1, hSw2⟩ := hSw; go_simp; (try with_reducible rfl)
          try simp only [Act.put, List.setIfInBounds_toArray, List.set_cons_zero, List.set_cons_succ]
          refine wpAnyE_take (i := 9) (v := ?_) rfl (by kernel_rfl) (fun _ _ _ h => h) (Or.inl ⟨by rfl, ?_⟩) hS ?_
          rotate_left
          · intro w hSw; (try dsimp only at hSw); obtain ⟨hSw1, hSw2⟩ := hSw; go_simp; (try with_reducible rfl)
          try simp only [Act.put, List.setIfInBounds_toArray, List.set_cons_zero, List.set_cons_succ]
          refine wpAnyE_take (i := 10) (v := ?_) rfl (by kernel_rfl) (fun _ _ _ h => h) (Or.inl ⟨by rfl, ?_⟩) hS ?_
          rotate_left
          · intro w hSw; (try dsimp only at hSw); obtain ⟨hSw1, hSw2⟩ := hSw; go_simp; (try with_reducible rfl)
          try simp only [Act.put, List.setIfInBounds_toArray, List.set_cons_zero, List.set_cons_succ]
          refine wpAnyE_one (k := 7) (by kernel_rfl) rfl (fun K hK => ?_)
          go_simp
          go_at_call 17
          refine (below_any w _ v0 n (N - 1) _ (HDa.out.drewN 1) (by omega) (by omega)).mono ?_
          rintro e wb ⟨vc, rfl, vc0, vc1, hDb, hob⟩
          have kTb : Blk wb T _ 26 := hob.blk kTa.drew (by omega)
          have kRb : Blk wb R _ 30 := hob.blk kRa.drew (by omega)
          have kPb : Blk wb P _ 39 := hob.blk kP.drew (by omega)
          have HMb : Hid (Blk wb M _ 26) := Lib.hid (hob.blk HMa.out.drew (by omega))
          have HBb : Hid (BldRes wb g (g + 1) _ x.rs) := Lib.hid (BldRes.past hob.within2 (BldRes.by (below_of_drewN _ 1) HBa.out) (by omega))
          have hbb' : Below w.heap.size w wb := hob.below (below_drewN hba 1) (Nat.le_refl _)
          have cPb : wb.cell? ⟨P, 0, none⟩ = some (.int .i64 va) := kPb.cell 0
          have cPb1 : wb.cell? ⟨P, 1, none⟩ = some (.int .i64 0) := kPb.cell 1
          have fPb : wb.frozen? ⟨P, 1, none⟩ = false := kPb.free 1
          have lPb := kPb.lt
          have cTb : wb.cell? ⟨T, 0, none⟩ = some (.int .i64 N) := kTb.cell 0
          have wsum := wrap_i64 (va + 1 + vc) (by omega) (by omega)
          obtain ⟨z, hz⟩ : ∃ z, (va + 1 + vc).tmod N = z := ⟨_, rfl⟩
          have hzb : -10 ≤ z ∧ z ≤ 10 := (by have h1 := Int.tmod_lt_of_pos (va + 1 + vc) (show 0 < N by omega); have h2 := Int.tmod_nonneg N (show 0 ≤ va + 1 + vc by omega); omega)
          have wZ := wrap_i64 z (by omega) (by omega)
          have hN0 : ¬ N = 0 := by omega
          clear hDb hob kTa kRa kP HMa HBa hba HDa cTa cP0 lTa lPa hS
          refine hK.out _ _ (fun _ => ⟨cPb, cTb⟩) ?_
          try simp only [Act.put, List.setIfInBounds_toArray, List.set_cons_zero, List.set_cons_succ]
          refine wpAnyE_one (k := 8) (by kernel_rfl) rfl (fun K hK => ?_)
          go_simp
          refine hK.out _ _ (fun _ => ⟨cPb, cTb⟩) ?_
          try simp only [Act.put, List.setIfInBounds_toArray, List.set_cons_zero, List.set_cons_succ]
          refine wpAnyE_one (k := 11) (by kernel_rfl) rfl (fun K hK => ?_)
          go_simp
          refine hK.out _ _ (fun _ => ⟨cPb, cTb⟩) ?_
          try simp only [Act.put, List.setIfInBounds_toArray, List.set_cons_zero, List.set_cons_succ]
          refine wpAnyE_one (k := 12) (by kernel_rfl) rfl (fun K hK => ?_)
          go_simp
          refine hK.out _ _ (fun _ => ⟨cPb, cTb⟩) ?_
          try simp only [Act.put, List.setIfInBounds_toArray, List.set_cons_zero, List.set_cons_succ]
          refine wpAnyE_one (k := 13) (by kernel_rfl) rfl (fun K hK => ?_)
          go_simp
          refine hK.out _ _ (fun h => absurd rfl h) ?_
          refine wpAnyE_done (by kernel_rfl) ?_ _
          have kPd : Blk (wb.setCell ⟨P, 1, none⟩ (.int .i64 z)) P #[.int .i64 va, .int .i64 z, .int .i64 (1 + vb), .int .i64 1] 39 := by simpa using kPb.set 1 (.int .i64 z)
          have kRd := kRb.apart P 1 (.int .i64 z) (by omega)
          have kMd := HMb.out.apart P 1 (.int .i64 z) (by omega)
          have HBd := Lib.hid (BldRes.past (Within.off (g := P) (o := 1) (w := wb) (.int .i64 z)) HBb.out (by omega))
          have hbd : Below w.heap.size w (wb.setCell ⟨P, 1, none⟩ (.int .i64 z)) := hbb'.setCell (show w.heap.size ≤ P by omega) _
          generalize wb.setCell ⟨P, 1, none⟩ (.int .i64 z) = wd at *
          have HRok := Lib.hid (res_ok va z (1 + vb) 1 (by omega) (by omega) (by omega) (by omega))
          clear hz wsum hzb wZ wvb vb0 vb1 vc0 vc1 cPb cPb1 fPb lPb cTb kPb kRb kTb HMb HBb hbb' wva wN1
          have cP0 : wd.cell? ⟨P, 0, none⟩ = some (.int .i64 va) := kPd.cell 0
          have cP1 : wd.cell? ⟨P, 1, none⟩ = some (.int .i64 z) := kPd.cell 1
          have cP2 : wd.cell? ⟨P, 2, none⟩ = some (.int .i64 (1 + vb)) := kPd.cell 2
          have cP3 : wd.cell? ⟨P, 3, none⟩ = some (.int .i64 1) := kPd.cell 3
          have lPd := kPd.lt
          have cM1 : wd.cell? ⟨M, 1, none⟩ = some (.slice (some ⟨g, 0, none⟩) L c') := kMd.cell 1
          have lMd := kMd.lt
          have hgs := HBd.out.1
          have hww : w.heap.size ≤ wd.heap.size := hbd.size
          clear hPM hPM2
          go_wp2_with (refine list_pushResG (by rfl) _ _ (by rfl) g c' L x.rs HLn.out (by rfl) (HBd.out.by (by ((repeat (first | (with_reducible exact Below.refl _ _) | (with_reducible refine below_drewN ?_ _) | (with_reducible refine Below.drew ?_) | (with_reducible refine below_al ?_ _) | (with_reducible refine below_on (by assumption) ?_) | ((with_reducible refine Below.setCell ?_ ?_ _); rotate_left; focus (first | omega | (simp; done) | (simp; omega))) | (with_reducible assumption))); done))) wd.heap.size ⟨va, z, 1 + vb, 1⟩ (by rfl) (Blk.new _ rfl) (by omega) ?_; intro g9 c9 w9 hg9 hB9 hw9; have HBe := Lib.hid hB9; clear hB9; simp only [World.size_alloc] at hg9; have kMe := hw9.blk (kMd.past (.cells #[.int .i64 va, .int .i64 z, .int .i64 (1 + vb), .int .i64 1] 39)) (by omega); have kRe := hw9.blk (kRd.past (.cells #[.int .i64 va, .int .i64 z, .int .i64 (1 + vb), .int .i64 1] 39)) (by omega); have hbe : Below w.heap.size w w9 := hw9.below ((below_al hbd (.cells #[.int .i64 va, .int .i64 z, .int .i64 (1 + vb), .int .i64 1] 39)) ) (by omega); have cMe : w9.cell? ⟨M, 1, none⟩ = some (.slice (some ⟨g, 0, none⟩) L c') := kMe.cell 1; have fMe := kMe.free 1; have cMe0 : w9.cell? ⟨M, 0, none⟩ = some (.int .i64 N) := kMe.cell 0; have lMe := kMe.lt; clear hw9)
          have hg9M : g9 ≠ M := by omega
          have kMf : Blk (w9.setCell ⟨M, 1, none⟩ (.slice (some ⟨g9, 0, none⟩) (L + 1) c9)) M #[.int .i64 N, .slice (some ⟨g9, 0, none⟩) (L + 1) c9] 26 := by simpa using kMe.set 1 (.slice (some ⟨g9, 0, none⟩) (L + 1) c9)
          have kRf := kRe.apart M 1 (.slice (some ⟨g9, 0, none⟩) (L + 1) c9) (by omega)
          have hbf : Below w.heap.size w (w9.setCell ⟨M, 1, none⟩ (.slice (some ⟨g9, 0, none⟩) (L + 1) c9)) := hbe.setCell (show w.heap.size ≤ M by omega) _
          have HS := Lib.hid (BldRes.past (Within.off (g := M) (o := 1) (w := w9) (.slice (some ⟨g9, 0, none⟩) (L + 1) c9)) HBe.out (by omega)).own.sl
          generalize w9.setCell ⟨M, 1, none⟩ (.slice (some ⟨g9, 0, none⟩) (L + 1) c9) = wf at *
          have HOK := Lib.hid (show ∀ q ∈ x.rs ++ [⟨va, z, 1 + vb, 1⟩], q.ok from by
            intro q hq
            rcases List.mem_append.1 hq with h | h
            · exact HX.out.2.2 q h
            · rw [List.mem_singleton] at h; subst h; exact HRok.out)
          clear cMe fMe cMe0 lMe kMe kRe hbe HBe
          have HSV := Lib.hid (fun w h => specValid_any N (.slice (some ⟨g9, 0, none⟩) (L + 1) c9) (x.rs ++ [⟨va, z, 1 + vb, 1⟩]) w h HOK.out (by omega))
          have HIV := Lib.hid (fun w h => implValid_any N (.slice (some ⟨g9, 0, none⟩) (L + 1) c9) (x.rs ++ [⟨va, z, 1 + vb, 1⟩]) w h HOK.out (by omega))
          have HML2 := Lib.hid (fun hv => HML.out (by first | trivial | rfl) ⟨va, z, 1 + vb, 1⟩ hv)
          rw [HNn.out] at HML2
          have HIE := Lib.hid (fun w h => implEr_any ⟨N, x.rs ++ [⟨va, z, 1 + vb, 1⟩]⟩ a b (.agg #[.int .i64 N, .slice (some ⟨g9, 0, none⟩) (L + 1) c9]) w h HOK.out (by unfold Fits; dsimp only; omega))
          have HEY := Lib.hid (fun (h : nkC ⟨N, x.rs ++ [⟨va, z, 1 + vb, 1⟩]⟩ a b = 0) => er_yes h)
          have HXY := Lib.hid (HY.out (by first | trivial | rfl))
          have cM0 := kMf.cell 0
          have cMf0 : wf.cell? ⟨M, 0, none⟩ = some (.int .i64 N) := kMf.cell 0
          have cMf1 : wf.cell? ⟨M, 1, none⟩ = some (.slice (some ⟨g9, 0, none⟩) (L + 1) c9) := kMf.cell 1
          have lMf := kMf.lt
          clear cM0
          generalize x.rs ++ [⟨va, z, 1 + vb, 1⟩] = rs' at *
          refine (HSV.out _ HS.out).mono ?_
          rintro e wg ⟨rfl, hbg⟩
          have kMg := Blk.by hbg kMf
          have kRg := Blk.by hbg kRf
          have hbG := below_on hbg hbf
          have HSg := Lib.hid (HS.out.by hbg)
          have cMg0 : wg.cell? ⟨M, 0, none⟩ = some (.int .i64 N) := kMg.cell 0
          have cMg1 : wg.cell? ⟨M, 1, none⟩ = some (.slice (some ⟨g9, 0, none⟩) (L + 1) c9) := kMg.cell 1
          have lMg := kMg.lt
          clear hbg kMf kRf hbf HS cMf0 cMf1 lMf
          cases hv : nwB N rs' with
          | false =>
            rw [hv] at HIV
            clear hv
            go_wp2_with fail
            refine (HIV.out _ HSg.out).mono ?_
            rintro e wh ⟨rfl, hbh⟩
            go_wp2
            go_ret
            exact ⟨rfl, below_on hbh hbG⟩
          | true =>
            obtain ⟨hn0, hle⟩ := HML2.out hv
            have hyy := HEY.out hn0
            have hxx := HXY.out
            rw [hn0] at HIE
            generalize (erS ⟨N, rs'⟩ a b).n = X2 at *
            generalize (erS ⟨N, rs'⟩ a b).d = Y2 at *
            have HW9 := Lib.hid (fun w => w9NotLess_any X Y X2 Y2 w (by omega) (by omega) (by omega) (by omega) hle)
            clear hle hyy hxx hn0 hv
            go_wp2_with fail
            refine (HIE.out _ ⟨_, rfl, HSg.out⟩).mono ?_
            rintro e wh ⟨rfl, hbh⟩
            have hal : Below wh.heap.size wh (wh.alloc (.cells #[.int .i64 X2, .int .i64 Y2] 30)) := (Below.refl _ wh).alloc (Nat.le_refl _) _
            have kU : Blk (wh.alloc (.cells #[.int .i64 X2, .int .i64 Y2] 30)) wh.heap.size #[.int .i64 X2, .int .i64 Y2] 30 := Blk.new _ rfl
            have kRi := Blk.by hal (Blk.by hbh kRg)
            have hbi : Below w.heap.size w (wh.alloc (.cells #[.int .i64 X2, .int .i64 Y2] 30)) := below_on hal (below_on hbh hbG)
            have qR := kRi.cell
            have lR := kRi.lt
            have qU := kU.cell
            have lU := kU.lt
            clear hbh kMg kRg hbG HSg cMg0 cMg1 lMg
            go_wp2_with fail
            refine (HW9.out _).mono ?_
            rintro e wj ⟨rfl, hbj⟩
            go_wp2
            go_ret
            exact ⟨rfl, below_on hbj hbi⟩
    · go_wp2
      go_ret
      exact ⟨rfl, hb7⟩
end Go.Proofs.Ytjolkdckhmmenaa.fnMoreResistors
