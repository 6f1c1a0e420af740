/- The draw of a network and two nodes: any small network. -/
import Derived.Test.YtjolkdckhmmenaaDrawNw
import Derived.Deep.DeepCutAuto
namespace Go.Proofs.Ytjolkdckhmmenaa
open Go.RowKit
set_option linter.unusedVariables false
set_option linter.unusedSimpArgs false

/-- What is kept while the nodes are drawn. -/
structure ErSt (W0 w : World) (G T : Nat) (N : Int) (v0 rv : Value) (n hi : Nat) (xs : List Res) (wx : World) : Prop where
  src : Src1 W0 G v0 n wx
  net : Blk wx T #[.int .i64 N, rv] 26
  out : Blk wx w.heap.size #[.int .i64 0, .slice none 0 0] 26
  own : OwnRes wx (G + 1) hi rv xs
  below : Below w.heap.size w wx
theorem ErSt.only {W0 w : World} {G T n hi : Nat} {N : Int} {v0 rv : Value} {xs : List Res} {wx wy : World} (h : ErSt W0 w G T N v0 rv n hi xs wx) (ho : Only G wx wy) (hD : Src1 W0 G v0 n wy) (hw : w.heap.size < G) (hT : G < T) : ErSt W0 w G T N v0 rv n hi xs wy :=
  ⟨hD, ho.blk h.net (by omega), ho.blk h.out (by omega), h.own.past ho.within2 (.inr (by omega)), ho.within2.below h.below (by omega)⟩
theorem ErSt.drew {W0 w : World} {G T n hi : Nat} {N : Int} {v0 rv : Value} {xs : List Res} {wx : World} (h : ErSt W0 w G T N v0 rv n hi xs wx) : ErSt W0 w G T N v0 rv n hi xs wx.drew :=
  ⟨h.src.by (below_of_drewN _ 1), h.net.drew, h.out.drew, h.own.by (below_of_drewN _ 1), h.below.drew⟩

set_option maxRecDepth 100000 in
set_option maxHeartbeats 4000000 in
theorem drawEr_own (v0 : Value) (n : Nat) (w : World) (h : Bytes w v0 n) (hn : n ≤ 4096) :
    Calls Try.prog 7 #[v0] w fun e w' => ∃ (x : Nw) (rv : Value) (a b : Int), e = .returned (.tuple #[.agg #[.int .i64 x.nodes, rv], .int .i64 a, .int .i64 b]) ∧ Hid (∃ hi, OwnRes w' w.heap.size hi rv x.rs) ∧ Hid ((0 ≤ x.nodes ∧ x.nodes ≤ 7) ∧ (0 < x.rs.length ∧ x.rs.length ≤ 16) ∧ ∀ r ∈ x.rs, r.ok) ∧ (0 ≤ a ∧ a ≤ 7) ∧ (-7 ≤ b ∧ b ≤ 7) ∧ Below w.heap.size w w' := by
  have HB := Lib.hid h
  obtain ⟨w0, hw0⟩ : ∃ z, z = w.alloc (.cells #[.int .i64 0, .slice none 0 0] 26) := ⟨_, rfl⟩
  have kR0 : Blk w0 w.heap.size #[.int .i64 0, .slice none 0 0] 26 := by rw [hw0]; exact Blk.new _ rfl
  have hb0 : Below w.heap.size w w0 := by rw [hw0]; exact (Below.refl _ w).alloc (Nat.le_refl _) _
  have hs0 : w0.heap.size = w.heap.size + 1 := by rw [hw0]; simp
  have hf := l01From_any v0 n w0 (HB.out.by hb0) hn
  obtain ⟨G, hG⟩ : ∃ G, w0.heap.size = G := ⟨_, rfl⟩
  rw [hG] at hf hs0
  have HF := Lib.hid hf
  have HN := Lib.hid (fun m w h hm => l01Next_any w0 G v0 n m w h hm)
  have HDN := Lib.hid (fun w h => l26DrawNetwork_any w0 G v0 n w h)
  have hGw : w.heap.size < G := by omega
  have HG := Lib.hid hG
  clear h hf hs0 hG
  go_enter Try.func7, Try.ntmps7
  go_wp2_with fail
  (try rw [← hw0])
  clear hw0
  refine HF.out.mono ?_
  rintro e w1 ⟨rfl, hD1, hb1⟩
  have kR1 : Blk w1 w.heap.size _ 26 := Blk.by (by rw [HG.out]; exact hb1) kR0
  have HD1 := Lib.hid hD1
  have hG1 := hD1.lt
  clear hD1 hb1
  go_wp2_with fail
  refine (HDN.out _ HD1.out).mono ?_
  rintro e w2 ⟨x, rv, rfl, hx0, hxl, hxr, ⟨hi, hO2⟩, hD2, hW2⟩
  obtain ⟨ar, cr, rfl⟩ := hO2.sl.len
  obtain ⟨Lr, hLr⟩ : ∃ L, x.rs.length = L := ⟨_, rfl⟩
  have HX := Lib.hid (And.intro hx0 (And.intro hxl hxr))
  obtain ⟨N, hN⟩ : ∃ N, x.nodes = N := ⟨_, rfl⟩
  rw [hN] at hx0
  have kR2 := hW2.blk kR1 (by omega)
  have hb2 : Below w.heap.size w w2 := below_on hD2.2.1 hb0
  have hsz2 := hW2.size
  have HXN := Lib.hid hN
  rw [hN]
  have HLr := Lib.hid hLr
  rw [hLr] at hO2 ⊢
  obtain ⟨T, hT⟩ : ∃ T, w2.heap.size = T := ⟨_, rfl⟩
  obtain ⟨w3, hw3⟩ : ∃ w3, w2.alloc (.cells #[.int .i64 N, .slice ar Lr cr] 26) = w3 := ⟨_, rfl⟩
  have hal : Below w2.heap.size w2 w3 := by rw [← hw3]; exact (Below.refl _ w2).alloc (Nat.le_refl _) _
  have HE3 := Lib.hid (show ErSt w0 w G T N v0 (.slice ar Lr cr) n hi x.rs w3 from ⟨hD2.by hal, by rw [← hw3]; exact Blk.new _ hT.symm, Blk.by hal kR2, hO2.by hal, below_on hal hb2⟩)
  have hGT : G < T := by omega
  have cT : w3.cell? ⟨T, 0, none⟩ = some (.int .i64 N) := HE3.out.net.cell 0
  have lT := HE3.out.net.lt
  have HW3 := Lib.hid hw3
  have HT := Lib.hid hT
  clear hW2 kR1 kR0 hD2 hO2 hxl hxr hN hLr hal hT hw3 kR2 hb2 hb0 hsz2 HD1
  by_cases h0 : N = 0
  · subst h0
    go_wp2_with fail
    (try rw [HW3.out])
    (try rw [HT.out])
    refine (HN.out _ _ HE3.out.src (by omega)).mono ?_
    rintro e w4 ⟨a, rfl, ha0, ha1, hD4, ho4⟩
    have HE4 := Lib.hid (HE3.out.only ho4 hD4 (by omega) (by omega))
    have c4 : w4.cell? ⟨T, 0, none⟩ = some (.int .i64 0) := HE4.out.net.cell 0
    have lT4 := HE4.out.net.lt
    clear hD4 ho4
    go_wp2_with fail
    refine (HN.out _ _ HE4.out.src (by omega)).mono ?_
    rintro e w5 ⟨b, rfl, hb0, hb1, hD5, ho5⟩
    have HE5 := Lib.hid (HE4.out.only ho5 hD5 (by omega) (by omega))
    have c5 : w5.cell? ⟨T, 0, none⟩ = some (.int .i64 0) := HE5.out.net.cell 0
    have lT5 := HE5.out.net.lt
    clear hD5 ho5 c4 lT4
    go_wp2_with fail
    refine (HN.out 20 _ HE5.out.src (by omega)).mono ?_
    rintro e w6 ⟨y, rfl, hy0, hy1, hD6, ho6⟩
    have HE6 := Lib.hid (HE5.out.only ho6 hD6 (by omega) (by omega))
    have c6 : w6.cell? ⟨T, 0, none⟩ = some (.int .i64 0) := HE6.out.net.cell 0
    have lT6 := HE6.out.net.lt
    clear hD6 ho6 c5 lT5 HE3 HE4 HE5 cT lT
    by_cases hy : y = 0
    · subst hy
      go_wp2_with fail
      go_region_law (first | (go_simp; go_at_call 22; refine (HN.out 2 _ HE6.out.drew.src (by omega)).mono ?_; rintro e w7 ⟨z, rfl, hz0, hz1, hD7, ho7⟩; have HE7 := Lib.hid (HE6.out.drew.only ho7 hD7 (by omega) (by omega)); have c7 : w7.cell? ⟨T, 0, none⟩ = some (.int .i64 0) := HE7.out.net.cell 0; have lT7 := HE7.out.net.lt; have wz := wrap_i64 (7 * z) (by omega) (by omega); have wz2 := wrap_i64 (-(7 * z)) (by omega) (by omega); clear hD7 ho7; dsimp only))
      all_goals
        have kT7 := HE7.out.net
        have kR7 := HE7.out.out
        have q71 : w7.cell? ⟨T, 1, none⟩ = some (.slice ar Lr cr) := kT7.cell 1
        have qR := kR7.cell
        have fR := kR7.free
        have lR := kR7.lt
        clear kT7 kR7
        go_wp2
        exact bodyPost_ret (v := .tuple #[.agg #[.int .i64 0, .slice ar Lr cr], .int .i64 a, .int .i64 (-(7 * z))]) (by simp [results, Try.results7, go_sem, *]) rfl ⟨x, .slice ar Lr cr, a, -(7 * z), by rw [HXN.out], Lib.hid ⟨hi, ((HE7.out.own.past (Within.off _) (.inr (by omega))).past (Within.off _) (.inr (by omega))).wide (by omega) (Nat.le_refl _)⟩, Lib.hid (HX.out), by omega, by omega, (HE7.out.below.setCell (Nat.le_refl _) _).setCell (Nat.le_refl _) _⟩
    · have hy' : (y == 0) = false := by simpa using hy
      have kT6 := HE6.out.net
      have kR6 := HE6.out.out
      have q61 : w6.cell? ⟨T, 1, none⟩ = some (.slice ar Lr cr) := kT6.cell 1
      have qR := kR6.cell
      have fR := kR6.free
      have lR := kR6.lt
      clear kT6 kR6
      go_wp2
      exact bodyPost_ret (v := .tuple #[.agg #[.int .i64 0, .slice ar Lr cr], .int .i64 a, .int .i64 b]) (by simp [results, Try.results7, go_sem, *]) rfl ⟨x, .slice ar Lr cr, a, b, by rw [HXN.out], Lib.hid ⟨hi, ((HE6.out.own.past (Within.off _) (.inr (by omega))).past (Within.off _) (.inr (by omega))).wide (by omega) (Nat.le_refl _)⟩, Lib.hid (HX.out), by omega, by omega, (HE6.out.below.setCell (Nat.le_refl _) _).setCell (Nat.le_refl _) _⟩
  by_cases h1 : N = 1
  · subst h1
    go_wp2_with fail
    (try rw [HW3.out])
    (try rw [HT.out])
    refine (HN.out _ _ HE3.out.src (by omega)).mono ?_
    rintro e w4 ⟨a, rfl, ha0, ha1, hD4, ho4⟩
    have HE4 := Lib.hid (HE3.out.only ho4 hD4 (by omega) (by omega))
    have c4 : w4.cell? ⟨T, 0, none⟩ = some (.int .i64 1) := HE4.out.net.cell 0
    have lT4 := HE4.out.net.lt
    clear hD4 ho4
    go_wp2_with fail
    refine (HN.out _ _ HE4.out.src (by omega)).mono ?_
    rintro e w5 ⟨b, rfl, hb0, hb1, hD5, ho5⟩
    have HE5 := Lib.hid (HE4.out.only ho5 hD5 (by omega) (by omega))
    have c5 : w5.cell? ⟨T, 0, none⟩ = some (.int .i64 1) := HE5.out.net.cell 0
    have lT5 := HE5.out.net.lt
    clear hD5 ho5 c4 lT4
    go_wp2_with fail
    refine (HN.out 20 _ HE5.out.src (by omega)).mono ?_
    rintro e w6 ⟨y, rfl, hy0, hy1, hD6, ho6⟩
    have HE6 := Lib.hid (HE5.out.only ho6 hD6 (by omega) (by omega))
    have c6 : w6.cell? ⟨T, 0, none⟩ = some (.int .i64 1) := HE6.out.net.cell 0
    have lT6 := HE6.out.net.lt
    clear hD6 ho6 c5 lT5 HE3 HE4 HE5 cT lT
    by_cases hy : y = 0
    · subst hy
      go_wp2_with fail
      go_region_law (first | (go_simp; go_at_call 22; refine (HN.out 2 _ HE6.out.drew.src (by omega)).mono ?_; rintro e w7 ⟨z, rfl, hz0, hz1, hD7, ho7⟩; have HE7 := Lib.hid (HE6.out.drew.only ho7 hD7 (by omega) (by omega)); have c7 : w7.cell? ⟨T, 0, none⟩ = some (.int .i64 1) := HE7.out.net.cell 0; have lT7 := HE7.out.net.lt; have wz := wrap_i64 (7 * z) (by omega) (by omega); have wz2 := wrap_i64 (1 - 7 * z) (by omega) (by omega); clear hD7 ho7; dsimp only))
      all_goals
        have kT7 := HE7.out.net
        have kR7 := HE7.out.out
        have q71 : w7.cell? ⟨T, 1, none⟩ = some (.slice ar Lr cr) := kT7.cell 1
        have qR := kR7.cell
        have fR := kR7.free
        have lR := kR7.lt
        clear kT7 kR7
        go_wp2
        exact bodyPost_ret (v := .tuple #[.agg #[.int .i64 1, .slice ar Lr cr], .int .i64 a, .int .i64 (1 - 7 * z)]) (by simp [results, Try.results7, go_sem, *]) rfl ⟨x, .slice ar Lr cr, a, 1 - 7 * z, by rw [HXN.out], Lib.hid ⟨hi, ((HE7.out.own.past (Within.off _) (.inr (by omega))).past (Within.off _) (.inr (by omega))).wide (by omega) (Nat.le_refl _)⟩, Lib.hid (HX.out), by omega, by omega, (HE7.out.below.setCell (Nat.le_refl _) _).setCell (Nat.le_refl _) _⟩
    · have hy' : (y == 0) = false := by simpa using hy
      have kT6 := HE6.out.net
      have kR6 := HE6.out.out
      have q61 : w6.cell? ⟨T, 1, none⟩ = some (.slice ar Lr cr) := kT6.cell 1
      have qR := kR6.cell
      have fR := kR6.free
      have lR := kR6.lt
      clear kT6 kR6
      go_wp2
      exact bodyPost_ret (v := .tuple #[.agg #[.int .i64 1, .slice ar Lr cr], .int .i64 a, .int .i64 b]) (by simp [results, Try.results7, go_sem, *]) rfl ⟨x, .slice ar Lr cr, a, b, by rw [HXN.out], Lib.hid ⟨hi, ((HE6.out.own.past (Within.off _) (.inr (by omega))).past (Within.off _) (.inr (by omega))).wide (by omega) (Nat.le_refl _)⟩, Lib.hid (HX.out), by omega, by omega, (HE6.out.below.setCell (Nat.le_refl _) _).setCell (Nat.le_refl _) _⟩
  · have h2 : 1 < N := by omega
    have h3 : ¬ N ≤ 1 := by omega
    clear h0 h1
    go_wp2_with fail
    (try rw [HW3.out])
    (try rw [HT.out])
    refine (HN.out _ _ HE3.out.src (by omega)).mono ?_
    rintro e w4 ⟨a, rfl, ha0, ha1, hD4, ho4⟩
    have HE4 := Lib.hid (HE3.out.only ho4 hD4 (by omega) (by omega))
    have c4 : w4.cell? ⟨T, 0, none⟩ = some (.int .i64 N) := HE4.out.net.cell 0
    have lT4 := HE4.out.net.lt
    clear hD4 ho4
    go_wp2_with fail
    refine (HN.out _ _ HE4.out.src (by omega)).mono ?_
    rintro e w5 ⟨b, rfl, hb0, hb1, hD5, ho5⟩
    have HE5 := Lib.hid (HE4.out.only ho5 hD5 (by omega) (by omega))
    have c5 : w5.cell? ⟨T, 0, none⟩ = some (.int .i64 N) := HE5.out.net.cell 0
    have lT5 := HE5.out.net.lt
    clear hD5 ho5 c4 lT4
    go_wp2_with fail
    refine (HN.out 20 _ HE5.out.src (by omega)).mono ?_
    rintro e w6 ⟨y, rfl, hy0, hy1, hD6, ho6⟩
    have HE6 := Lib.hid (HE5.out.only ho6 hD6 (by omega) (by omega))
    have c6 : w6.cell? ⟨T, 0, none⟩ = some (.int .i64 N) := HE6.out.net.cell 0
    have lT6 := HE6.out.net.lt
    clear hD6 ho6 c5 lT5 HE3 HE4 HE5 cT lT
    by_cases hy : y = 0
    · subst hy
      go_wp2_with fail
      go_region_law (first | (go_simp; go_at_call 22; refine (HN.out 2 _ HE6.out.drew.src (by omega)).mono ?_; rintro e w7 ⟨z, rfl, hz0, hz1, hD7, ho7⟩; have HE7 := Lib.hid (HE6.out.drew.only ho7 hD7 (by omega) (by omega)); have c7 : w7.cell? ⟨T, 0, none⟩ = some (.int .i64 N) := HE7.out.net.cell 0; have lT7 := HE7.out.net.lt; have wz := wrap_i64 (7 * z) (by omega) (by omega); have wz2 := wrap_i64 (N - 7 * z) (by omega) (by omega); clear hD7 ho7; dsimp only))
      all_goals
        have kT7 := HE7.out.net
        have kR7 := HE7.out.out
        have q71 : w7.cell? ⟨T, 1, none⟩ = some (.slice ar Lr cr) := kT7.cell 1
        have qR := kR7.cell
        have fR := kR7.free
        have lR := kR7.lt
        clear kT7 kR7
        go_wp2
        exact bodyPost_ret (v := .tuple #[.agg #[.int .i64 N, .slice ar Lr cr], .int .i64 a, .int .i64 (N - 7 * z)]) (by simp [results, Try.results7, go_sem, *]) rfl ⟨x, .slice ar Lr cr, a, N - 7 * z, by rw [HXN.out], Lib.hid ⟨hi, ((HE7.out.own.past (Within.off _) (.inr (by omega))).past (Within.off _) (.inr (by omega))).wide (by omega) (Nat.le_refl _)⟩, Lib.hid (HX.out), by omega, by omega, (HE7.out.below.setCell (Nat.le_refl _) _).setCell (Nat.le_refl _) _⟩
    · have hy' : (y == 0) = false := by simpa using hy
      have kT6 := HE6.out.net
      have kR6 := HE6.out.out
      have q61 : w6.cell? ⟨T, 1, none⟩ = some (.slice ar Lr cr) := kT6.cell 1
      have qR := kR6.cell
      have fR := kR6.free
      have lR := kR6.lt
      clear kT6 kR6
      go_wp2
      exact bodyPost_ret (v := .tuple #[.agg #[.int .i64 N, .slice ar Lr cr], .int .i64 a, .int .i64 b]) (by simp [results, Try.results7, go_sem, *]) rfl ⟨x, .slice ar Lr cr, a, b, by rw [HXN.out], Lib.hid ⟨hi, ((HE6.out.own.past (Within.off _) (.inr (by omega))).past (Within.off _) (.inr (by omega))).wide (by omega) (Nat.le_refl _)⟩, Lib.hid (HX.out), by omega, by omega, (HE6.out.below.setCell (Nat.le_refl _) _).setCell (Nat.le_refl _) _⟩
theorem drawEr_any (v0 : Value) (n : Nat) (w : World) (h : Bytes w v0 n) (hn : n ≤ 4096) :
    Calls Try.prog 7 #[v0] w fun e w' => ∃ (x : Nw) (rv : Value) (a b : Int), e = .returned (.tuple #[.agg #[.int .i64 x.nodes, rv], .int .i64 a, .int .i64 b]) ∧ Hid (ResSl w' rv x.rs) ∧ Hid ((0 ≤ x.nodes ∧ x.nodes ≤ 7) ∧ (0 < x.rs.length ∧ x.rs.length ≤ 16) ∧ ∀ r ∈ x.rs, r.ok) ∧ (0 ≤ a ∧ a ≤ 7) ∧ (-7 ≤ b ∧ b ≤ 7) ∧ Below w.heap.size w w' := by
  refine (drawEr_own v0 n w h hn).mono ?_
  rintro e w' ⟨x, rv, a, b, he, hO, h1, h2, h3, h4⟩
  exact ⟨x, rv, a, b, he, Lib.hid (by obtain ⟨hi, h⟩ := hO.out; exact h.sl), h1, h2, h3, h4⟩
end Go.Proofs.Ytjolkdckhmmenaa
