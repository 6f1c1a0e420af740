/- The draw of two orders, and of a matching. -/
import Derived.Test.YtikpalfajfmdnaaDraw1
import Derived.Deep.RegionHeld3
namespace Go.Proofs.Ytikpalfajfmdnaa
open Go.RowKit
set_option linter.unusedVariables false
set_option linter.unusedSimpArgs false

theorem Src1.within {W0 w w' : World} {g n lo hi : Nat} {sv : Value} (h : Src1 W0 g sv n w) (hw : Within lo hi w w') (h1 : W0.heap.size ≤ lo) (h2 : g < lo ∨ hi ≤ g) : Src1 W0 g sv n w' := by
  have hl := h.lt
  obtain ⟨a1, a2, a3, a4, i, x, a5, a6, a7, a8⟩ := h
  exact ⟨a1, hw.below a2 h1, a3, a4, i, x, a5, a6, a7, (hw.block g hl h2).trans a8⟩

theorem IntSl.three {w : World} {v : Value} {zs : List Int} (h : IntSl w v zs) {M R : Nat} {m1 m2 r1 r2 : Option Addr} {n1 n2 n3 n4 c1 c2 c3 c4 : Nat} {T : TypeId} (kM : Blk w M #[.slice m1 n1 c1, .slice m2 n2 c2] T) (kR : Blk w R #[.slice r1 n3 c3, .slice r2 n4 c4] T) (o : Nat) (y y0 y1 : Value) :
    IntSl (((w.setCell ⟨M, o, none⟩ y).setCell ⟨R, 0, none⟩ y0).setCell ⟨R, 1, none⟩ y1) v zs := by
  rcases h with h | ⟨b, off, cap, h1, h2, h3, h4⟩
  · exact .inl h
  · refine .inr ⟨b, off, cap, h1, h2, h3, fun i x hx => ?_⟩
    have hc := h4 i x hx
    have no : ∀ (G : Nat) (a1 a2 : Option Addr) (l1 l2 d1 d2 : Nat), Blk w G #[.slice a1 l1 d1, .slice a2 l2 d2] T → b ≠ G := fun G a1 a2 l1 l2 d1 d2 hG e => by
      subst e
      rw [hG.cell] at hc
      match hk : off + i, hc with
      | 0, hc => simp [hk] at hc
      | 1, hc => simp [hk] at hc
      | k + 2, hc => simp [hk] at hc
    have hM := no M _ _ _ _ _ _ kM
    have hR := no R _ _ _ _ _ _ kR
    rw [← hc]
    simp only [World.cell?]
    rw [Below.heap_setCell _ ⟨R, 1, none⟩ _ b hR, Below.heap_setCell _ ⟨R, 0, none⟩ _ b hR, Below.heap_setCell _ ⟨M, o, none⟩ _ b hM]
theorem below_new (w : World) (o : Obj) : Below w.heap.size w (w.alloc o) := (Below.refl _ w).alloc (Nat.le_refl _) o
theorem Within.newer {a w w' : World} {lo hi lo' hi' : Nat} (h : Within lo hi a w) (h' : Within lo' hi' w w') (hl : a.heap.size ≤ lo') : Within lo hi a w' :=
  ⟨h'.os.trans h.os, h'.tape.trans h.tape, h'.output.trans h.output, Nat.le_trans h.size h'.size, fun k hk hne => (h'.block k (Nat.lt_of_lt_of_le hk h.size) (.inl (by omega))).trans (h.block k hk hne)⟩

set_option maxRecDepth 100000 in
set_option maxHeartbeats 2000000 in
theorem l30DrawOrders_any (W0 : World) (g : Nat) (sv : Value) (n : Nat) (p q : Nat) (hp : p ≤ 100) (hq : q ≤ 100) (w : World) (hD : Src1 W0 g sv n w) :
    Calls Try.prog 11 #[.pointer (some ⟨g, 0, none⟩), .int .i64 (p : Int), .int .i64 (q : Int)] w fun e w' => ∃ v, e = .returned v ∧ ∃ z, MaV w' v z ∧ z.1.length ≤ 300 ∧ z.2.length ≤ 300 ∧ Src1 W0 g sv n w' ∧ Within g (g + 1) w w' := by
  have HN := Lib.hid (fun m w h hm => l01Next_any W0 g sv n m w h hm)
  have HO := Lib.hid (fun m hm w h => l27DrawOrder_any W0 g sv n m hm w h)
  have hgl := hD.lt
  have hg0 := hD.1
  have HD0 : Hid (Src1 W0 g sv n (w.alloc (.cells #[.slice none 0 0, .slice none 0 0] 26))) := Lib.hid (hD.by ((Below.refl _ w).alloc (Nat.le_refl _) _))
  have kR0 : Blk (w.alloc (.cells #[.slice none 0 0, .slice none 0 0] 26)) w.heap.size #[.slice none 0 0, .slice none 0 0] 26 := Blk.new _ rfl
  have HW0 : Hid (Within g (g + 1) w (w.alloc (.cells #[.slice none 0 0, .slice none 0 0] 26))) := Lib.hid ((Within.refl _ _ _).alloc _)
  have hs0 : (w.alloc (.cells #[.slice none 0 0, .slice none 0 0] 26)).heap.size = w.heap.size + 1 := by simp
  clear hD
  go_enter Try.func11, Try.ntmps11
  go_wp2_with fail
  refine (HO.out p (by omega) _ HD0.out).mono ?_
  rintro e w1 ⟨v1, z1, rfl, hl1, hB1, hD1, hW1⟩
  obtain ⟨a1, c1, rfl⟩ := hB1.sized
  rw [hl1] at hB1 ⊢
  have HB1 := Lib.hid hB1
  have HD1 := Lib.hid hD1
  have HL1 := Lib.hid hl1
  have hs1 := hW1.size
  have kR1 := hW1.blk kR0 (by omega)
  have HW1 := Lib.hid (HW0.out.on hW1)
  clear hB1 hD1 hl1 hW1 kR0 HW0 HD0
  go_wp2_with fail
  refine (HO.out q (by omega) _ HD1.out).mono ?_
  rintro e w2 ⟨v2, z2, rfl, hl2, hB2, hD2, hW2⟩
  obtain ⟨a2, c2, rfl⟩ := hB2.sized
  rw [hl2] at hB2 ⊢
  have HB2 := Lib.hid hB2
  have HL2 := Lib.hid hl2
  have hs2 := hW2.size
  have kR2 := hW2.blk kR1 (by omega)
  have HB1' := Lib.hid (HB1.out.past hW2 (.inl (by omega)))
  have HW2 := Lib.hid (HW1.out.on hW2)
  have HD2 := Lib.hid hD2
  clear hB2 hD2 hl2 hW2 kR1 HW1 HD1 HB1
  obtain ⟨M, hM⟩ : ∃ M, w2.heap.size = M := ⟨_, rfl⟩
  obtain ⟨w3, hw3⟩ : ∃ z, z = w2.alloc (.cells #[.slice a1 p c1, .slice a2 q c2] 26) := ⟨_, rfl⟩
  have hal : Below w2.heap.size w2 w3 := by rw [hw3]; exact (Below.refl _ w2).alloc (Nat.le_refl _) _
  have kM3 : Blk w3 M #[.slice a1 p c1, .slice a2 q c2] 26 := by rw [hw3]; exact Blk.new _ hM.symm
  have hs3 : w3.heap.size = M + 1 := by rw [hw3]; simp [hM]
  have kR3 := Blk.by hal kR2
  have HD3 := Lib.hid (HD2.out.by hal)
  have HB13 := Lib.hid (HB1'.out.by hal)
  have HB23 := Lib.hid (HB2.out.by hal)
  have HW3 : Hid (Within g (g + 1) w w3) := Lib.hid (HW2.out.on ⟨hal.os, hal.tape, hal.output, hal.size, fun k hk _ => hal.block k hk⟩)
  simp only [hs0] at HB13
  go_wp2_with fail
  (try rw [← hw3])
  (try rw [hM])
  clear hw3 hal kR2 HD2 HB1' HB2 HW2
  refine (HN.out 20 _ HD3.out (by omega)).mono ?_
  rintro e w4 ⟨y, rfl, hy0, hy1, hD4, ho4⟩
  have hs4 := ho4.size
  have kM4 : Blk w4 M _ 26 := ho4.blk kM3 (by omega)
  have kR4 : Blk w4 w.heap.size _ 26 := ho4.blk kR3 (by omega)
  have HB14 := Lib.hid (HB13.out.only ho4 (by omega))
  have HB24 := Lib.hid (HB23.out.only ho4 (by omega))
  have HW4 := Lib.hid (HW3.out.on ho4.within)
  have HD4 := Lib.hid hD4
  clear hD4 ho4 kM3 kR3 HB13 HB23 HW3 HD3
  have qM := kM4.cell
  have fM := kM4.free
  have lM := kM4.lt
  have qR := kR4.cell
  have fR := kR4.free
  have lR := kR4.lt
  have hge0 : W0.heap.size ≤ w.heap.size := by omega
  have hll1 := HL1.out
  have hll2 := HL2.out
  have HLL := Lib.hid (And.intro hll1 hll2)
  clear hll1 hll2
  by_cases y0 : y = 0
  · have e0 : (y == 0) = true := by simpa using y0
    clear y0
    go_upto_region 4 with fail
    have hS : (fun w' : World => w'.cell? ⟨M, 0, none⟩ = some (.slice a1 p c1)) { w4 with drawn := w4.drawn + 1 } := qM 0
    refine wp_region_any (by kernel_rfl) (wpAny_of_E (S := fun w' => w'.cell? ⟨M, 0, none⟩ = some (.slice a1 p c1)) (l := 7) _ _ _ _ ?_)
    change wpAnyE _ _ _ _ _ _ _ _ _ w4.drew
    refine wpAnyE_take (i := 0) (v := ?_) rfl (by kernel_rfl) (fun _ _ _ h => h) (Or.inl ⟨by rfl, ?_⟩) hS ?_
    rotate_left
    · intro w hSw; (try dsimp only at hSw); go_simp; (try with_reducible rfl)
    try simp only [Act.put, List.setIfInBounds_toArray, List.set_cons_zero, List.set_cons_succ]
    refine wpAnyE_take (i := 1) (v := ?_) rfl (by kernel_rfl) (fun _ _ _ h => h) (Or.inl ⟨by rfl, ?_⟩) hS ?_
    rotate_left
    · intro w hSw; (try dsimp only at hSw); go_simp; (try with_reducible rfl)
    try simp only [Act.put, List.setIfInBounds_toArray, List.set_cons_zero, List.set_cons_succ]
    refine wpAnyE_take (i := 2) (v := ?_) rfl (by kernel_rfl) (fun _ _ _ h => h) (Or.inl ⟨by rfl, ?_⟩) hS ?_
    rotate_left
    · intro w hSw; (try dsimp only at hSw); go_simp; (try with_reducible rfl)
    try simp only [Act.put, List.setIfInBounds_toArray, List.set_cons_zero, List.set_cons_succ]
    refine wpAnyE_one (k := 3) (by kernel_rfl) rfl (fun K hK => ?_)
    go_simp
    go_at_call 12
    refine (HN.out 3 _ (HD4.out.by (Below.refl _ w4).drew) (by omega)).mono ?_
    rintro e w5 ⟨x, rfl, hx0, hx1, hD5, ho5⟩
    have hs5 := ho5.size
    simp only [World.size_drew] at hs5
    have kM5 : Blk w5 M _ 26 := ho5.blk (kM4.drew) (by omega)
    have kR5 : Blk w5 w.heap.size _ 26 := ho5.blk (kR4.drew) (by omega)
    have HB15 := Lib.hid ((HB14.out.by (Below.refl _ w4).drew).only ho5 (by omega))
    have HB25 := Lib.hid ((HB24.out.by (Below.refl _ w4).drew).only ho5 (by omega))
    have HD5 := Lib.hid hD5
    have HW5 : Hid (Within g (g + 1) w w5) := Lib.hid ((HW4.out.drewN 1).on ho5.within)
    have qM5 := kM5.cell
    clear hD5 ho5
    go_simp
    refine hK.out _ _ (fun _ => qM5 0) ?_
    try simp only [Act.put, List.setIfInBounds_toArray, List.set_cons_zero, List.set_cons_succ]
    refine wpAnyE_one (k := 4) (by kernel_rfl) rfl (fun K hK => ?_)
    go_simp
    have hal : Below w5.heap.size w5 (w5.alloc (.cells #[.int .i64 x] 2)) := (Below.refl _ w5).alloc (Nat.le_refl _) _
    refine hK.out _ _ (fun _ => cell_by' hal (qM5 0)) ?_
    try simp only [Act.put, List.setIfInBounds_toArray, List.set_cons_zero, List.set_cons_succ]
    refine wpAnyE_one (k := 5) (by kernel_rfl) rfl (fun K hK => ?_)
    obtain ⟨hla, hlb⟩ := HLL.out
    refine step_pushI (by rfl) _ _ (by rfl) _ _ (.slice a1 p c1) z1 [x] (by rfl) (HB15.out.by hal) _ 1 #[.int .i64 x] (by rfl) rfl (by omega) (Blk.new _ (by omega)) rfl (by omega) (by omega) ?_
    intro a6 c6 w6 hB6 hw6
    rw [hla] at hB6 ⊢
    have hs6 := hw6.size
    simp only [World.size_alloc] at hs6
    have kM6 : Blk w6 M _ 26 := hw6.blk (kM5.past _) (by omega)
    have kR6 : Blk w6 w.heap.size _ 26 := hw6.blk (kR5.past _) (by omega)
    have HB6 := Lib.hid hB6
    have HB26 := Lib.hid ((HB25.out.by hal).past hw6 (.inl (by omega)))
    have HD6 := Lib.hid ((HD5.out.by hal).within hw6 (by omega) (.inl (by omega)))
    have HW6 : Hid (Within g (g + 1) w w6) := Lib.hid ((HW5.out.alloc _).newer hw6 (by omega))
    have qM6 := kM6.cell
    have fM6 := kM6.free
    have lM6 := kM6.lt
    have fR6 := kR6.free
    have lR6 := kR6.lt
    have qR6 := kR6.cell
    clear hB6 hw6 hal
    refine hK.out _ _ (fun _ => qM6 0) ?_
    try simp only [Act.put, List.setIfInBounds_toArray, List.set_cons_zero, List.set_cons_succ]
    refine wpAnyE_one (k := 6) (by kernel_rfl) rfl (fun K hK => ?_)
    go_simp
    refine hK.out _ _ (fun _ => qM6 0) ?_
    try simp only [Act.put, List.setIfInBounds_toArray, List.set_cons_zero, List.set_cons_succ]
    refine wpAnyE_one (k := 7) (by kernel_rfl) rfl (fun K hK => ?_)
    go_simp
    refine hK.out _ _ (fun h => absurd rfl h) ?_
    refine wpAnyE_done (by kernel_rfl) ?_ _
    clear hS
    have hMR : ¬ M = w.heap.size := by omega
    have hRM : ¬ w.heap.size = M := by omega
    go_wp2
    refine bodyPost_ret (v := .agg #[.slice a6 (p + 1) c6, .slice a2 q c2]) (by simp [results, Try.results11, go_sem, *]) rfl ⟨_, rfl, (z1 ++ [x], z2), ⟨_, _, rfl, ?_, ?_⟩, ?_, ?_, ?_, ?_⟩
    · exact IntSl.three (HB6.out).own.sl kM6 kR6 _ _ _ _
    · exact IntSl.three (HB26.out).own.sl kM6 kR6 _ _ _ _
    · simp; omega
    · simp; omega
    · exact (((HD6.out).apart (by omega) (by omega)).apart (by omega) (by omega)).apart (by omega) (by omega)
    · exact (((HW6.out).newer (Within.off _) (by omega)).newer (Within.off _) (by omega)).newer (Within.off _) (by omega)
  · have e0 : (y == 0) = false := by simpa using y0
    by_cases y1 : y = 1
    · have e1 : (y == 1) = true := by simpa using y1
      clear y0 y1
      have hMR : ¬ M = w.heap.size := by omega
      have hRM : ¬ w.heap.size = M := by omega
      obtain ⟨hla, hlb⟩ := HLL.out
      go_wp2_with (refine list_pushI (by rfl) _ _ (by rfl) _ _ (.slice a2 q c2) z2 [-1] (by rfl) (HB24.out.by (by ((repeat (first | (with_reducible exact Below.refl _ _) | (with_reducible refine below_drewN ?_ _) | (with_reducible refine Below.drew ?_) | (with_reducible refine below_al ?_ _) | (with_reducible refine below_on (by assumption) ?_) | ((with_reducible refine Below.setCell ?_ ?_ _); rotate_left; focus (first | omega | (simp; done) | (simp; omega))) | (with_reducible assumption))); done))) _ 1 #[.int .i64 (-1)] (by rfl) (by rfl) (by omega) (Blk.new _ (by omega)) (by rfl) (by omega) (by omega) ?_; intro a6 c6 w6 hB6 hw6; rw [hlb] at hB6 ⊢; have hs6 := hw6.size; simp only [World.size_alloc] at hs6; have kM6 : Blk w6 M _ 26 := hw6.blk (kM4.past _) (by omega); have kR6 : Blk w6 w.heap.size _ 26 := hw6.blk (kR4.past _) (by omega); have HB6 := Lib.hid hB6; have HB16 := Lib.hid ((HB14.out.by (below_new w4 _)).past hw6 (.inr (by omega))); have HD6 := Lib.hid ((HD4.out.by (below_new w4 _)).within hw6 (by omega) (.inl (by omega))); have HW6 : Hid (Within g (g + 1) w w6) := Lib.hid ((HW4.out.alloc _).newer hw6 (by omega)); have qM6 := kM6.cell; have fM6 := kM6.free; have lM6 := kM6.lt; have fR6 := kR6.free; have lR6 := kR6.lt; have qR6 := kR6.cell; clear hB6 hw6)
      refine bodyPost_ret (v := .agg #[.slice a1 p c1, .slice a6 (q + 1) c6]) (by simp [results, Try.results11, go_sem, *]) rfl ⟨_, rfl, (z1, z2 ++ [-1]), ⟨_, _, rfl, ?_, ?_⟩, ?_, ?_, ?_, ?_⟩
      · exact IntSl.three (HB16.out).own.sl kM6 kR6 _ _ _ _
      · exact IntSl.three (HB6.out).own.sl kM6 kR6 _ _ _ _
      · simp; omega
      · simp; omega
      · exact (((HD6.out).apart (by omega) (by omega)).apart (by omega) (by omega)).apart (by omega) (by omega)
      · exact (((HW6.out).newer (Within.off _) (by omega)).newer (Within.off _) (by omega)).newer (Within.off _) (by omega)
    · have e1 : (y == 1) = false := by simpa using y1
      by_cases y2 : y = 2
      · have e2 : (y == 2) = true := by simpa using y2
        clear y0 y1 y2
        have hMR : ¬ M = w.heap.size := by omega
        have hRM : ¬ w.heap.size = M := by omega
        obtain ⟨hla, hlb⟩ := HLL.out
        go_wp2_with fail
        refine (HN.out 2 _ HD4.out (by omega)).mono ?_
        rintro e w5 ⟨x, rfl, hx0, hx1, hD5, ho5⟩
        obtain ⟨k, rfl⟩ : ∃ k : Nat, x = k := ⟨x.toNat, by omega⟩
        have hs5 := ho5.size
        have kM5 : Blk w5 M _ 26 := ho5.blk kM4 (by omega)
        have kR5 : Blk w5 w.heap.size _ 26 := ho5.blk kR4 (by omega)
        have HB25 := Lib.hid (HB24.out.only ho5 (by omega))
        have HD5 := Lib.hid hD5
        have HW5 : Hid (Within g (g + 1) w w5) := Lib.hid (HW4.out.on ho5.within)
        have hwk : IntKind.i64.wrap (24 + (k : Int)) = ((24 + k : Nat) : Int) := by simp [IntKind.wrap, IntKind.bits, IntKind.signed]; omega
        clear hD5 ho5
        go_wp2_with fail
        (try rw [hwk])
        (try rw [show (24 : Int) + (k : Int) = ((24 + k : Nat) : Int) by omega])
        refine (HO.out (24 + k) (by omega) _ HD5.out).mono ?_
        rintro e w6 ⟨v6, z6, rfl, hl6, hB6, hD6, hW6⟩
        obtain ⟨a6, c6, rfl⟩ := hB6.sized
        have hs6 := hW6.size
        have kM6 : Blk w6 M _ 26 := hW6.blk kM5 (by omega)
        have kR6 : Blk w6 w.heap.size _ 26 := hW6.blk kR5 (by omega)
        have HB6 := Lib.hid hB6
        have HB26 := Lib.hid (HB25.out.past hW6 (.inl (by omega)))
        have HD6 := Lib.hid hD6
        have HW6 : Hid (Within g (g + 1) w w6) := Lib.hid (HW5.out.on hW6)
        have HL6 := Lib.hid hl6
        have qM6 := kM6.cell
        have fM6 := kM6.free
        have lM6 := kM6.lt
        have fR6 := kR6.free
        have lR6 := kR6.lt
        have qR6 := kR6.cell
        clear hB6 hD6 hW6 hl6
        go_wp2
        have hl6 := HL6.out
        refine bodyPost_ret (v := .agg #[.slice a6 z6.length c6, .slice a2 q c2]) (by simp [results, Try.results11, go_sem, *]) rfl ⟨_, rfl, (z6, z2), ⟨_, _, rfl, ?_, ?_⟩, ?_, ?_, ?_, ?_⟩
        · exact IntSl.three (HB6.out).own.sl kM6 kR6 _ _ _ _
        · exact IntSl.three (HB26.out).own.sl kM6 kR6 _ _ _ _
        · simp; omega
        · simp; omega
        · exact (((HD6.out).apart (by omega) (by omega)).apart (by omega) (by omega)).apart (by omega) (by omega)
        · exact (((HW6.out).newer (Within.off _) (by omega)).newer (Within.off _) (by omega)).newer (Within.off _) (by omega)
      · have e2 : (y == 2) = false := by simpa using y2
        clear y0 y1 y2
        obtain ⟨hla, hlb⟩ := HLL.out
        go_wp2
        refine bodyPost_ret (v := .agg #[.slice a1 p c1, .slice a2 q c2]) (by simp [results, Try.results11, go_sem, *]) rfl ⟨_, rfl, (z1, z2), ⟨_, _, rfl, ?_, ?_⟩, ?_, ?_, ?_, ?_⟩
        · exact (BldI.past (Within.off _) (BldI.past (Within.off _) (HB14.out) (by omega)) (by omega)).own.sl
        · exact (BldI.past (Within.off _) (BldI.past (Within.off _) (HB24.out) (by omega)) (by omega)).own.sl
        · simp; omega
        · simp; omega
        · exact ((HD4.out).apart (by omega) (by omega)).apart (by omega) (by omega)
        · exact ((HW4.out).newer (Within.off _) (by omega)).newer (Within.off _) (by omega)
end Go.Proofs.Ytikpalfajfmdnaa
