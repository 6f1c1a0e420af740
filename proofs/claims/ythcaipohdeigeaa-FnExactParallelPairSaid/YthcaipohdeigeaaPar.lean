/- Parallel devices: contracts. -/
import Derived.Test.YthcaipohdeigeaaCur
import Derived.Test.YthcaipohdeigeaaNlKit
namespace Go.Proofs.Ythcaipohdeigeaa
open Go.RowKit
set_option linter.unusedVariables false
set_option linter.unusedSimpArgs false

set_option maxRecDepth 100000 in
set_option maxHeartbeats 2000000 in
theorem l28Parallel_any (x y : Dv) (s t : Value) (w : World) (h : IntSl w s x.pins) (h' : IntSl w t y.pins) (hl : x.pins.length ≤ 1048576) (hl' : y.pins.length ≤ 1048576) :
    Calls Try.prog 120 #[.agg #[.int .i64 x.kind, s, .int .i64 x.wd, .int .i64 x.len], .agg #[.int .i64 y.kind, t, .int .i64 y.wd, .int .i64 y.len]] w fun e w' => e = .returned (.bool (parS x y)) ∧ Below w.heap.size w w' := by
  have hfd : ∀ (a b c d : Value) (w : World), (Instr.field 27 (.agg #[a, b, c, d]) 1).run Try.prog w = .ok b w := fun _ _ _ _ _ => by kernel_rfl
  have HB := Lib.hid (show parS x y = (decide (x.kind = y.kind) && (decide (lcmp (normz x.kind x.pins) (normz y.kind y.pins) = 0) && (decide (x.kind = 2) || decide (x.len = y.len)))) from rfl)
  generalize parS x y = r at *
  obtain ⟨k1, xs, d1, l1⟩ := x
  obtain ⟨k2, ys, d2, l2⟩ := y
  dsimp only at h h' hl hl' HB ⊢
  have HX := Lib.hid h
  have HY := Lib.hid h'
  obtain ⟨a, c, rfl⟩ := h.len
  obtain ⟨a', c', rfl⟩ := h'.len
  clear h h'
  by_cases hk : k1 = k2
  · subst hk
    have HN1 := Lib.hid (fun w h => specNorm_any k1 d1 l1 (.slice a xs.length c) xs w h hl)
    have HN2 := Lib.hid (fun w h => specNorm_any k1 d2 l2 (.slice a' ys.length c') ys w h hl')
    have HLL := Lib.hid (fun s1 s2 w h h' => l27List_any s1 s2 (normz k1 xs) (normz k1 ys) w h h')
    generalize normz k1 xs = nx at *
    generalize normz k1 ys = ny at *
    rcases Bool.eq_false_or_eq_true (lcmp nx ny == 0) with hz | hz
    · have HZ := Lib.hid hz
      have hz2 : (lcmp nx ny != 0) = false := by simpa using hz
      rcases Bool.eq_false_or_eq_true (k1 == 2) with hk2 | hk2
      all_goals
        have HK2 := Lib.hid hk2
        generalize lcmp nx ny = q at *
        go_enter Try.func120, Try.ntmps120
        go_wp2_with fail
        go_region_held3 ((fun w' => (Blk w' (w.heap.size) #[.int .i64 k1, .slice a xs.length c, .int .i64 d1, .int .i64 l1] 27 ∧ ∀ o, w'.cell? ⟨w.heap.size, o, none⟩ = (#[.int .i64 k1, .slice a xs.length c, .int .i64 d1, .int .i64 l1] : Array Value)[o]?) ∧ (Blk w' (w.heap.size + 1) #[.int .i64 k1, .slice a' ys.length c', .int .i64 d2, .int .i64 l2] 27 ∧ ∀ o, w'.cell? ⟨w.heap.size + 1, o, none⟩ = (#[.int .i64 k1, .slice a' ys.length c', .int .i64 d2, .int .i64 l2] : Array Value)[o]?) ∧ Below w.heap.size w w')) (((try (obtain ⟨⟨hS0, _⟩, ⟨hS1, _⟩, hSB⟩ := hHeld)); refine ⟨Blk.both ?_, Blk.both ?_, ?_⟩ <;> first | ((repeat (first | (with_reducible assumption) | (with_reducible refine Blk.drewN ?_ _) | (with_reducible refine Blk.drew ?_) | ((with_reducible refine Blk.new _ ?_); focus (first | omega | (simp; done) | (simp; omega))) | (with_reducible refine Blk.past ?_ _) | ((with_reducible refine Blk.apart ?_ _ _ _ ?_); rotate_left; focus (first | omega | (simp; done) | (simp; omega))) | (with_reducible refine Blk.by (by assumption) ?_))); done) | ((repeat (first | (with_reducible exact Below.refl _ _) | (with_reducible refine below_drewN ?_ _) | (with_reducible refine Below.drew ?_) | (with_reducible refine below_al ?_ _) | (with_reducible refine below_on (by assumption) ?_) | ((with_reducible refine Below.setCell ?_ ?_ _); rotate_left; focus (first | omega | (simp; done) | (simp; omega))) | (with_reducible assumption))); done)))
          (first | (go_at_call_of 20 (Value.slice a xs.length c); refine (HN1.out _ (HX.out.by (by ((repeat (first | (with_reducible exact Below.refl _ _) | (with_reducible refine below_drewN ?_ _) | (with_reducible refine Below.drew ?_) | (with_reducible refine below_al ?_ _) | (with_reducible refine below_on (by assumption) ?_) | ((with_reducible refine Below.setCell ?_ ?_ _); rotate_left; focus (first | omega | (simp; done) | (simp; omega))) | (with_reducible assumption))); done)))).mono ?_; rintro e w1 ⟨v1, rfl, hO1, hb1⟩; have HO1 := Lib.hid hO1; obtain ⟨a1, c1, rfl⟩ := hO1.len; clear hO1) | (go_at_call_of 20 (Value.slice a' ys.length c'); refine (HN2.out _ (HY.out.by (by ((repeat (first | (with_reducible exact Below.refl _ _) | (with_reducible refine below_drewN ?_ _) | (with_reducible refine Below.drew ?_) | (with_reducible refine below_al ?_ _) | (with_reducible refine below_on (by assumption) ?_) | ((with_reducible refine Below.setCell ?_ ?_ _); rotate_left; focus (first | omega | (simp; done) | (simp; omega))) | (with_reducible assumption))); done)))).mono ?_; rintro e w2 ⟨v2, rfl, hO2, hb2⟩; have HO2 := Lib.hid hO2; obtain ⟨a2, c2, rfl⟩ := hO2.len; clear hO2) | (go_at_call 58; refine (HLL.out _ _ _ (HO1.out.sl.by hb2) HO2.out.sl).mono ?_; rintro e w3 ⟨rfl, nd, rfl⟩))
        go_wp2
        go_ret
        exact ⟨ret_bool (by have h1 := HB.out; have h2 := HZ.out; have h3 := HK2.out; rw [h1]; simp at h2 h3; simp [h2, h3]; try rfl), (by ((repeat (first | (with_reducible exact Below.refl _ _) | (with_reducible refine below_drewN ?_ _) | (with_reducible refine Below.drew ?_) | (with_reducible refine below_al ?_ _) | (with_reducible refine below_on (by assumption) ?_) | ((with_reducible refine Below.setCell ?_ ?_ _); rotate_left; focus (first | omega | (simp; done) | (simp; omega))) | (with_reducible assumption))); done))⟩
    · have HZ := Lib.hid hz
      have hz2 : (lcmp nx ny != 0) = true := by simpa using hz
      generalize lcmp nx ny = q at *
      go_enter Try.func120, Try.ntmps120
      go_wp2_with fail
      go_region_held3 ((fun w' => (Blk w' (w.heap.size) #[.int .i64 k1, .slice a xs.length c, .int .i64 d1, .int .i64 l1] 27 ∧ ∀ o, w'.cell? ⟨w.heap.size, o, none⟩ = (#[.int .i64 k1, .slice a xs.length c, .int .i64 d1, .int .i64 l1] : Array Value)[o]?) ∧ (Blk w' (w.heap.size + 1) #[.int .i64 k1, .slice a' ys.length c', .int .i64 d2, .int .i64 l2] 27 ∧ ∀ o, w'.cell? ⟨w.heap.size + 1, o, none⟩ = (#[.int .i64 k1, .slice a' ys.length c', .int .i64 d2, .int .i64 l2] : Array Value)[o]?) ∧ Below w.heap.size w w')) (((try (obtain ⟨⟨hS0, _⟩, ⟨hS1, _⟩, hSB⟩ := hHeld)); refine ⟨Blk.both ?_, Blk.both ?_, ?_⟩ <;> first | ((repeat (first | (with_reducible assumption) | (with_reducible refine Blk.drewN ?_ _) | (with_reducible refine Blk.drew ?_) | ((with_reducible refine Blk.new _ ?_); focus (first | omega | (simp; done) | (simp; omega))) | (with_reducible refine Blk.past ?_ _) | ((with_reducible refine Blk.apart ?_ _ _ _ ?_); rotate_left; focus (first | omega | (simp; done) | (simp; omega))) | (with_reducible refine Blk.by (by assumption) ?_))); done) | ((repeat (first | (with_reducible exact Below.refl _ _) | (with_reducible refine below_drewN ?_ _) | (with_reducible refine Below.drew ?_) | (with_reducible refine below_al ?_ _) | (with_reducible refine below_on (by assumption) ?_) | ((with_reducible refine Below.setCell ?_ ?_ _); rotate_left; focus (first | omega | (simp; done) | (simp; omega))) | (with_reducible assumption))); done)))
        (first | (go_at_call_of 20 (Value.slice a xs.length c); refine (HN1.out _ (HX.out.by (by ((repeat (first | (with_reducible exact Below.refl _ _) | (with_reducible refine below_drewN ?_ _) | (with_reducible refine Below.drew ?_) | (with_reducible refine below_al ?_ _) | (with_reducible refine below_on (by assumption) ?_) | ((with_reducible refine Below.setCell ?_ ?_ _); rotate_left; focus (first | omega | (simp; done) | (simp; omega))) | (with_reducible assumption))); done)))).mono ?_; rintro e w1 ⟨v1, rfl, hO1, hb1⟩; have HO1 := Lib.hid hO1; obtain ⟨a1, c1, rfl⟩ := hO1.len; clear hO1) | (go_at_call_of 20 (Value.slice a' ys.length c'); refine (HN2.out _ (HY.out.by (by ((repeat (first | (with_reducible exact Below.refl _ _) | (with_reducible refine below_drewN ?_ _) | (with_reducible refine Below.drew ?_) | (with_reducible refine below_al ?_ _) | (with_reducible refine below_on (by assumption) ?_) | ((with_reducible refine Below.setCell ?_ ?_ _); rotate_left; focus (first | omega | (simp; done) | (simp; omega))) | (with_reducible assumption))); done)))).mono ?_; rintro e w2 ⟨v2, rfl, hO2, hb2⟩; have HO2 := Lib.hid hO2; obtain ⟨a2, c2, rfl⟩ := hO2.len; clear hO2) | (go_at_call 58; refine (HLL.out _ _ _ (HO1.out.sl.by hb2) HO2.out.sl).mono ?_; rintro e w3 ⟨rfl, nd, rfl⟩))
      go_wp2
      go_ret
      exact ⟨ret_bool (by have h1 := HB.out; have h2 := HZ.out; rw [h1]; simp at h2; simp [h2]), (by ((repeat (first | (with_reducible exact Below.refl _ _) | (with_reducible refine below_drewN ?_ _) | (with_reducible refine Below.drew ?_) | (with_reducible refine below_al ?_ _) | (with_reducible refine below_on (by assumption) ?_) | ((with_reducible refine Below.setCell ?_ ?_ _); rotate_left; focus (first | omega | (simp; done) | (simp; omega))) | (with_reducible assumption))); done))⟩
  · have hk' : (k1 != k2) = true := by simpa using hk
    have HK := Lib.hid hk
    clear hk
    go_enter Try.func120, Try.ntmps120
    go_wp2
    go_quiet (fail)
    go_wp2
    go_ret
    exact ⟨ret_bool (by rw [HB.out]; simp [HK.out]), (by ((repeat (first | (with_reducible exact Below.refl _ _) | (with_reducible refine below_drewN ?_ _) | (with_reducible refine Below.drew ?_) | (with_reducible refine below_al ?_ _) | (with_reducible refine below_on (by assumption) ?_) | ((with_reducible refine Below.setCell ?_ ?_ _); rotate_left; focus (first | omega | (simp; done) | (simp; omega))) | (with_reducible assumption))); done))⟩
end Go.Proofs.Ythcaipohdeigeaa
