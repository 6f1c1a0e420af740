/- The reference's NormalizeDevice: the last two in order. -/
import Derived.Test.YtjldkejegdljiaaNorms
namespace Go.Proofs.Ytjldkejegdljiaa
open Go.RowKit
set_option linter.unusedVariables false
set_option linter.unusedSimpArgs false

set_option maxRecDepth 100000 in
set_option maxHeartbeats 4000000 in
theorem specNorm_two (kind wd len : Int) (sv : Value) (p q : Int) (w : World) (h : IntSl w sv [p, q]) (hk : pinc kind = 2) :
    Calls Try.prog 85 #[.agg #[.int .i64 kind, sv, .int .i64 wd, .int .i64 len]] w fun e w' => ∃ v, e = .returned (.agg #[.int .i64 kind, v, .int .i64 wd, .int .i64 len]) ∧ OwnI w' w.heap.size v [min p q, max p q] ∧ Below w.heap.size w w' := by
  have HO := Lib.hid (fun w h => own_any kind wd len sv [p, q] w h (by simp))
  have h1 := h.by (((Below.refl _ w).alloc (Nat.le_refl _) (.cells #[.int .i64 kind, sv, .int .i64 wd, .int .i64 len] 68)).alloc (by simp) (.cells #[.int .i64 0, .slice none 0 0, .int .i64 0, .int .i64 0] 68))
  rcases h with ⟨_, _, _, h2⟩ | ⟨b, off, cap, hsv, h2, h3, h4⟩
  · simp at h2
  simp only [List.length_cons, List.length_nil, Nat.zero_add, Nat.reduceAdd] at hsv h2
  subst hsv
  have hp : w.cell? ⟨b, off, none⟩ = some (.int .i64 p) := by have := h4 0 p rfl; simpa using this
  have hq : w.cell? ⟨b, off + 1, none⟩ = some (.int .i64 q) := by have := h4 1 q rfl; simpa using this
  have hbl : b < w.heap.size := by
    rcases Nat.lt_or_ge b w.heap.size with h' | h'
    · exact h'
    · simp [World.cell?, Array.getElem?_eq_none h'] at hp
  clear h4
  have HS := Lib.hid (fun w => by have := l28Shape_any kind wd len (some ⟨b, off, none⟩) 2 cap (by omega) w; rwa [decide_eq_true (by rw [hk]; simp)] at this)
  have HF := Lib.hid (fun w => l28First_any kind wd len (some ⟨b, off, none⟩) 0 cap (by omega) w)
  clear hk
  go_enter Try.func85, Try.ntmps85
  go_wp2_with fail
  refine (HO.out _ h1).mono ?_
  rintro e w1 ⟨v, rfl, hO, hb1⟩
  clear h1
  have k0 : Blk w1 w.heap.size #[.int .i64 kind, .slice (some ⟨b, off, none⟩) 2 cap, .int .i64 wd, .int .i64 len] 68 := (by ((repeat (first | (with_reducible assumption) | (with_reducible refine Blk.drewN ?_ _) | (with_reducible refine Blk.drew ?_) | ((with_reducible refine Blk.new _ ?_); focus (first | omega | (simp; done) | (simp; omega))) | (with_reducible refine Blk.past ?_ _) | ((with_reducible refine Blk.apart ?_ _ _ _ ?_); rotate_left; focus (first | omega | (simp; done) | (simp; omega))) | (with_reducible refine Blk.by (by assumption) ?_))); done))
  have k1 : Blk w1 (w.heap.size + 1) #[.int .i64 0, .slice none 0 0, .int .i64 0, .int .i64 0] 68 := (by ((repeat (first | (with_reducible assumption) | (with_reducible refine Blk.drewN ?_ _) | (with_reducible refine Blk.drew ?_) | ((with_reducible refine Blk.new _ ?_); focus (first | omega | (simp; done) | (simp; omega))) | (with_reducible refine Blk.past ?_ _) | ((with_reducible refine Blk.apart ?_ _ _ _ ?_); rotate_left; focus (first | omega | (simp; done) | (simp; omega))) | (with_reducible refine Blk.by (by assumption) ?_))); done))
  have hW : Below w.heap.size w w1 := (by ((repeat (first | (with_reducible exact Below.refl _ _) | (with_reducible refine below_drewN ?_ _) | (with_reducible refine Below.drew ?_) | (with_reducible refine below_al ?_ _) | (with_reducible refine below_on (by assumption) ?_) | ((with_reducible refine Below.setCell ?_ ?_ _); rotate_left; focus (first | omega | (simp; done) | (simp; omega))) | (with_reducible assumption))); done))
  clear hb1
  have c0 := k0.cell
  have f0 := k0.free
  have l0 := k0.lt
  have c1' := k1.cell
  have f1 := k1.free
  have l1 := k1.lt
  rcases hO with ⟨_, _, _, hO⟩ | ⟨g, cap1, cs, hv, hlo, hcap, hmax, hG, hG'⟩
  · simp at hO
  simp only [List.length_cons, List.length_nil, Nat.zero_add, Nat.reduceAdd] at hv hcap
  subst hv
  simp at hlo
  have hgp := hG.lt
  go_wp2_with fail
  refine (HS.out _).mono ?_
  rintro e w2 ⟨rfl, hb2⟩
  replace hG := Blk.by hb2 (hG.past (.cells #[.int .i64 kind, .slice (some ⟨g, 0, none⟩) 2 cap1, .int .i64 wd, .int .i64 len] 68))
  have k3 : Blk w2 w1.heap.size #[.int .i64 kind, .slice (some ⟨g, 0, none⟩) 2 cap1, .int .i64 wd, .int .i64 len] 68 := (by ((repeat (first | (with_reducible assumption) | (with_reducible refine Blk.drewN ?_ _) | (with_reducible refine Blk.drew ?_) | ((with_reducible refine Blk.new _ ?_); focus (first | omega | (simp; done) | (simp; omega))) | (with_reducible refine Blk.past ?_ _) | ((with_reducible refine Blk.apart ?_ _ _ _ ?_); rotate_left; focus (first | omega | (simp; done) | (simp; omega))) | (with_reducible refine Blk.by (by assumption) ?_))); done))
  have k4 : Blk w2 w.heap.size #[.int .i64 kind, .slice (some ⟨b, off, none⟩) 2 cap, .int .i64 wd, .int .i64 len] 68 := (by ((repeat (first | (with_reducible assumption) | (with_reducible refine Blk.drewN ?_ _) | (with_reducible refine Blk.drew ?_) | ((with_reducible refine Blk.new _ ?_); focus (first | omega | (simp; done) | (simp; omega))) | (with_reducible refine Blk.past ?_ _) | ((with_reducible refine Blk.apart ?_ _ _ _ ?_); rotate_left; focus (first | omega | (simp; done) | (simp; omega))) | (with_reducible refine Blk.by (by assumption) ?_))); done))
  have k5 : Blk w2 (w.heap.size + 1) #[.int .i64 0, .slice none 0 0, .int .i64 0, .int .i64 0] 68 := (by ((repeat (first | (with_reducible assumption) | (with_reducible refine Blk.drewN ?_ _) | (with_reducible refine Blk.drew ?_) | ((with_reducible refine Blk.new _ ?_); focus (first | omega | (simp; done) | (simp; omega))) | (with_reducible refine Blk.past ?_ _) | ((with_reducible refine Blk.apart ?_ _ _ _ ?_); rotate_left; focus (first | omega | (simp; done) | (simp; omega))) | (with_reducible refine Blk.by (by assumption) ?_))); done))
  have hW2 : Below w.heap.size w w2 := below_on hb2 (below_al hW _)
  clear c0 f0 l0 c1' f1 k0 k1 hb2 hW
  generalize w1.heap.size = px at *
  have c0 := k4.cell
  have c1' := k5.cell
  have f1 := k5.free
  have c2 := k3.cell
  have f2 := k3.free
  go_wp2_with fail
  refine (HF.out _).mono ?_
  rintro e w3 ⟨rfl, hb3⟩
  clear c0 c1' f1 c2 f2
  replace hG := Blk.by hb3 hG
  replace k3 := Blk.by hb3 k3
  replace k4 := Blk.by hb3 k4
  replace k5 := Blk.by hb3 k5
  replace hW2 := below_on hb3 hW2
  clear hb3
  have c0 := k4.cell
  have c1' := k5.cell
  have f1 := k5.free
  have c2 := k3.cell
  have f2 := k3.free
  have cp := cell_by' hW2 hp
  have cq := cell_by' hW2 hq
  have hG0 := hG' 0 p rfl
  have hG1 := hG' 1 q rfl
  have cg := hG.cell
  have fg := hG.free
  have wr1 : IntKind.i64.wrap 1 = 1 := by decide
  have wr2 : IntKind.i64.wrap 2 = 2 := by decide
  go_wp2_with fail
  go_region_held3 (fun w' => (Blk w' (w.heap.size) #[.int .i64 kind, .slice (some ⟨b, off, none⟩) 2 cap, .int .i64 wd, .int .i64 len] 68 ∧ ∀ o, w'.cell? ⟨w.heap.size, o, none⟩ = (#[.int .i64 kind, .slice (some ⟨b, off, none⟩) 2 cap, .int .i64 wd, .int .i64 len] : Array Value)[o]?) ∧ (Blk w' (px) #[.int .i64 kind, .slice (some ⟨g, 0, none⟩) 2 cap1, .int .i64 wd, .int .i64 len] 68 ∧ ∀ o, w'.cell? ⟨px, o, none⟩ = (#[.int .i64 kind, .slice (some ⟨g, 0, none⟩) 2 cap1, .int .i64 wd, .int .i64 len] : Array Value)[o]?) ∧ w'.cell? ⟨b, off, none⟩ = some (.int .i64 p) ∧ w'.cell? ⟨b, off + 1, none⟩ = some (.int .i64 q) ∧ Below w.heap.size w w') (((try (obtain ⟨⟨hS0, _⟩, ⟨hS1, _⟩, _, _, hSB⟩ := hHeld)); refine ⟨Blk.both ?_, Blk.both ?_, cell_by' ?_ hp, cell_by' ?_ hq, ?_⟩ <;> first | ((repeat (first | (with_reducible assumption) | (with_reducible refine Blk.drewN ?_ _) | (with_reducible refine Blk.drew ?_) | ((with_reducible refine Blk.new _ ?_); focus (first | omega | (simp; done) | (simp; omega))) | (with_reducible refine Blk.past ?_ _) | ((with_reducible refine Blk.apart ?_ _ _ _ ?_); rotate_left; focus (first | omega | (simp; done) | (simp; omega))) | (with_reducible refine Blk.by (by assumption) ?_))); done) | ((repeat (first | (with_reducible exact Below.refl _ _) | (with_reducible refine below_drewN ?_ _) | (with_reducible refine Below.drew ?_) | (with_reducible refine below_al ?_ _) | (with_reducible refine below_on (by assumption) ?_) | ((with_reducible refine Below.setCell ?_ ?_ _); rotate_left; focus (first | omega | (simp; done) | (simp; omega))) | (with_reducible assumption))); done))) (fail)
  replace hG := (hG.set 0 (.int .i64 (if q < p then q else p))).drew
  replace k3 := (k3.apart g 0 (.int .i64 (if q < p then q else p)) (by omega)).drew
  replace k4 := (k4.apart g 0 (.int .i64 (if q < p then q else p)) (by omega)).drew
  replace k5 := (k5.apart g 0 (.int .i64 (if q < p then q else p)) (by omega)).drew
  replace hW2 : Below w.heap.size w (w3.setCell ⟨g, 0, none⟩ (.int .i64 (if q < p then q else p))).drew := (by ((repeat (first | (with_reducible exact Below.refl _ _) | (with_reducible refine below_drewN ?_ _) | (with_reducible refine Below.drew ?_) | (with_reducible refine below_al ?_ _) | (with_reducible refine below_on (by assumption) ?_) | ((with_reducible refine Below.setCell ?_ ?_ _); rotate_left; focus (first | omega | (simp; done) | (simp; omega))) | (with_reducible assumption))); done))
  clear c0 c1' f1 c2 f2 cp cq cg fg
  have hz1 : 0 < cs.size := by rcases Nat.lt_or_ge 0 cs.size with h | h; exact h; (rw [Array.getElem?_eq_none h] at hG0; cases hG0)
  have hz2 : 1 < cs.size := by rcases Nat.lt_or_ge 1 cs.size with h | h; exact h; (rw [Array.getElem?_eq_none h] at hG1; cases hG1)
  have c0 := k4.cell
  have c1' := k5.cell
  have f1 := k5.free
  have c2 := k3.cell
  have f2 := k3.free
  have cp := cell_by' hW2 hp
  have cq := cell_by' hW2 hq
  have cg := hG.cell
  have fg := hG.free
  have hG1 : (cs.setIfInBounds 0 (Value.int .i64 (if q < p then q else p)))[1]? = some (.int .i64 q) := by rw [Array.getElem?_setIfInBounds_ne (by omega)]; exact hG1
  have hMn : (cs.setIfInBounds 0 (Value.int .i64 (if q < p then q else p)))[0]? = some (.int .i64 (if q < p then q else p)) := by rw [Array.getElem?_setIfInBounds_self_of_lt hz1]
  skip
  replace hz2 : 1 < (cs.setIfInBounds 0 (Value.int .i64 (if q < p then q else p))).size := by rw [Array.size_setIfInBounds]; exact hz2
  clear hz1 hG0 hG'
  generalize hm : (if q < p then q else p) = mn at *
  generalize cs.setIfInBounds 0 (Value.int .i64 mn) = cs2 at *
  generalize (w3.setCell ⟨g, 0, none⟩ (.int .i64 mn)).drew = w4 at *
  go_wp2_with fail
  go_region_held3 (fun w' => (Blk w' (w.heap.size) #[.int .i64 kind, .slice (some ⟨b, off, none⟩) 2 cap, .int .i64 wd, .int .i64 len] 68 ∧ ∀ o, w'.cell? ⟨w.heap.size, o, none⟩ = (#[.int .i64 kind, .slice (some ⟨b, off, none⟩) 2 cap, .int .i64 wd, .int .i64 len] : Array Value)[o]?) ∧ (Blk w' (px) #[.int .i64 kind, .slice (some ⟨g, 0, none⟩) 2 cap1, .int .i64 wd, .int .i64 len] 68 ∧ ∀ o, w'.cell? ⟨px, o, none⟩ = (#[.int .i64 kind, .slice (some ⟨g, 0, none⟩) 2 cap1, .int .i64 wd, .int .i64 len] : Array Value)[o]?) ∧ w'.cell? ⟨b, off, none⟩ = some (.int .i64 p) ∧ w'.cell? ⟨b, off + 1, none⟩ = some (.int .i64 q) ∧ Below w.heap.size w w') (((try (obtain ⟨⟨hS0, _⟩, ⟨hS1, _⟩, _, _, hSB⟩ := hHeld)); refine ⟨Blk.both ?_, Blk.both ?_, cell_by' ?_ hp, cell_by' ?_ hq, ?_⟩ <;> first | ((repeat (first | (with_reducible assumption) | (with_reducible refine Blk.drewN ?_ _) | (with_reducible refine Blk.drew ?_) | ((with_reducible refine Blk.new _ ?_); focus (first | omega | (simp; done) | (simp; omega))) | (with_reducible refine Blk.past ?_ _) | ((with_reducible refine Blk.apart ?_ _ _ _ ?_); rotate_left; focus (first | omega | (simp; done) | (simp; omega))) | (with_reducible refine Blk.by (by assumption) ?_))); done) | ((repeat (first | (with_reducible exact Below.refl _ _) | (with_reducible refine below_drewN ?_ _) | (with_reducible refine Below.drew ?_) | (with_reducible refine below_al ?_ _) | (with_reducible refine below_on (by assumption) ?_) | ((with_reducible refine Below.setCell ?_ ?_ _); rotate_left; focus (first | omega | (simp; done) | (simp; omega))) | (with_reducible assumption))); done))) (fail)
  replace hG := (hG.set 1 (.int .i64 (if p < q then q else p))).drew
  replace k3 := (k3.apart g 1 (.int .i64 (if p < q then q else p)) (by omega)).drew
  replace k5 := (k5.apart g 1 (.int .i64 (if p < q then q else p)) (by omega)).drew
  replace hW2 : Below w.heap.size w (w4.setCell ⟨g, 1, none⟩ (.int .i64 (if p < q then q else p))).drew := (by ((repeat (first | (with_reducible exact Below.refl _ _) | (with_reducible refine below_drewN ?_ _) | (with_reducible refine Below.drew ?_) | (with_reducible refine below_al ?_ _) | (with_reducible refine below_on (by assumption) ?_) | ((with_reducible refine Below.setCell ?_ ?_ _); rotate_left; focus (first | omega | (simp; done) | (simp; omega))) | (with_reducible assumption))); done))
  clear c0 c1' f1 c2 f2 cp cq cg fg k4
  have c1' := k5.cell
  have f1 := k5.free
  have c2 := k3.cell
  have f2 := k3.free
  replace hMn : (cs2.setIfInBounds 1 (Value.int .i64 (if p < q then q else p)))[0]? = some (.int .i64 mn) := by rw [Array.getElem?_setIfInBounds_ne (by omega)]; exact hMn
  have hMx : (cs2.setIfInBounds 1 (Value.int .i64 (if p < q then q else p)))[1]? = some (.int .i64 (if p < q then q else p)) := by rw [Array.getElem?_setIfInBounds_self_of_lt hz2]
  skip
  clear hG1 hz2
  generalize hm' : (if p < q then q else p) = mx at *
  generalize cs2.setIfInBounds 1 (Value.int .i64 mx) = cs3 at *
  generalize (w4.setCell ⟨g, 1, none⟩ (.int .i64 mx)).drew = w5 at *
  have HM := Lib.hid (show mn = min p q from by rw [← hm]; split <;> omega)
  have HX := Lib.hid (show mx = max p q from by rw [← hm']; split <;> omega)
  clear hm hm'
  go_wp2
  refine bodyPost_ret (v := .agg #[.int .i64 kind, .slice (some ⟨g, 0, none⟩) 2 cap1, .int .i64 wd, .int .i64 len]) (by simp [results, Try.results85, go_sem, *]) rfl ⟨_, rfl, ?_, (by ((repeat (first | (with_reducible exact Below.refl _ _) | (with_reducible refine below_drewN ?_ _) | (with_reducible refine Below.drew ?_) | (with_reducible refine below_al ?_ _) | (with_reducible refine below_on (by assumption) ?_) | ((with_reducible refine Below.setCell ?_ ?_ _); rotate_left; focus (first | omega | (simp; done) | (simp; omega))) | (with_reducible assumption))); done))⟩
  refine .inr ⟨g, cap1, cs3, rfl, by omega, hcap, hmax, (by ((repeat (first | (with_reducible assumption) | (with_reducible refine Blk.drewN ?_ _) | (with_reducible refine Blk.drew ?_) | ((with_reducible refine Blk.new _ ?_); focus (first | omega | (simp; done) | (simp; omega))) | (with_reducible refine Blk.past ?_ _) | ((with_reducible refine Blk.apart ?_ _ _ _ ?_); rotate_left; focus (first | omega | (simp; done) | (simp; omega))) | (with_reducible refine Blk.by (by assumption) ?_))); done)), ?_⟩
  rw [← HM.out, ← HX.out]
  intro i x hx
  match i, hx with
  | 0, hx => obtain rfl := Option.some.inj hx; exact hMn
  | 1, hx => obtain rfl := Option.some.inj hx; exact hMx
  | (_ + 2), hx => simp at hx

set_option maxRecDepth 100000 in
set_option maxHeartbeats 4000000 in
theorem specNorm_three (kind wd len : Int) (sv : Value) (r p q : Int) (w : World) (h : IntSl w sv [r, p, q]) (hk : pinc kind = 3) :
    Calls Try.prog 85 #[.agg #[.int .i64 kind, sv, .int .i64 wd, .int .i64 len]] w fun e w' => ∃ v, e = .returned (.agg #[.int .i64 kind, v, .int .i64 wd, .int .i64 len]) ∧ OwnI w' w.heap.size v [r, min p q, max p q] ∧ Below w.heap.size w w' := by
  have HO := Lib.hid (fun w h => own_any kind wd len sv [r, p, q] w h (by simp))
  have h1 := h.by (((Below.refl _ w).alloc (Nat.le_refl _) (.cells #[.int .i64 kind, sv, .int .i64 wd, .int .i64 len] 68)).alloc (by simp) (.cells #[.int .i64 0, .slice none 0 0, .int .i64 0, .int .i64 0] 68))
  rcases h with ⟨_, _, _, h2⟩ | ⟨b, off, cap, hsv, h2, h3, h4⟩
  · simp at h2
  simp only [List.length_cons, List.length_nil, Nat.zero_add, Nat.reduceAdd] at hsv h2
  subst hsv
  have hp : w.cell? ⟨b, off + 1, none⟩ = some (.int .i64 p) := by have := h4 1 p rfl; simpa using this
  have hq : w.cell? ⟨b, off + 2, none⟩ = some (.int .i64 q) := by have := h4 2 q rfl; simpa using this
  have hbl : b < w.heap.size := by
    rcases Nat.lt_or_ge b w.heap.size with h' | h'
    · exact h'
    · simp [World.cell?, Array.getElem?_eq_none h'] at hp
  clear h4
  have HS := Lib.hid (fun w => by have := l28Shape_any kind wd len (some ⟨b, off, none⟩) 3 cap (by omega) w; rwa [decide_eq_true (by rw [hk]; simp)] at this)
  have HF := Lib.hid (fun w => l28First_any kind wd len (some ⟨b, off, none⟩) 1 cap (by omega) w)
  clear hk
  go_enter Try.func85, Try.ntmps85
  go_wp2_with fail
  refine (HO.out _ h1).mono ?_
  rintro e w1 ⟨v, rfl, hO, hb1⟩
  clear h1
  have k0 : Blk w1 w.heap.size #[.int .i64 kind, .slice (some ⟨b, off, none⟩) 3 cap, .int .i64 wd, .int .i64 len] 68 := (by ((repeat (first | (with_reducible assumption) | (with_reducible refine Blk.drewN ?_ _) | (with_reducible refine Blk.drew ?_) | ((with_reducible refine Blk.new _ ?_); focus (first | omega | (simp; done) | (simp; omega))) | (with_reducible refine Blk.past ?_ _) | ((with_reducible refine Blk.apart ?_ _ _ _ ?_); rotate_left; focus (first | omega | (simp; done) | (simp; omega))) | (with_reducible refine Blk.by (by assumption) ?_))); done))
  have k1 : Blk w1 (w.heap.size + 1) #[.int .i64 0, .slice none 0 0, .int .i64 0, .int .i64 0] 68 := (by ((repeat (first | (with_reducible assumption) | (with_reducible refine Blk.drewN ?_ _) | (with_reducible refine Blk.drew ?_) | ((with_reducible refine Blk.new _ ?_); focus (first | omega | (simp; done) | (simp; omega))) | (with_reducible refine Blk.past ?_ _) | ((with_reducible refine Blk.apart ?_ _ _ _ ?_); rotate_left; focus (first | omega | (simp; done) | (simp; omega))) | (with_reducible refine Blk.by (by assumption) ?_))); done))
  have hW : Below w.heap.size w w1 := (by ((repeat (first | (with_reducible exact Below.refl _ _) | (with_reducible refine below_drewN ?_ _) | (with_reducible refine Below.drew ?_) | (with_reducible refine below_al ?_ _) | (with_reducible refine below_on (by assumption) ?_) | ((with_reducible refine Below.setCell ?_ ?_ _); rotate_left; focus (first | omega | (simp; done) | (simp; omega))) | (with_reducible assumption))); done))
  clear hb1
  have c0 := k0.cell
  have f0 := k0.free
  have l0 := k0.lt
  have c1' := k1.cell
  have f1 := k1.free
  have l1 := k1.lt
  rcases hO with ⟨_, _, _, hO⟩ | ⟨g, cap1, cs, hv, hlo, hcap, hmax, hG, hG'⟩
  · simp at hO
  simp only [List.length_cons, List.length_nil, Nat.zero_add, Nat.reduceAdd] at hv hcap
  subst hv
  simp at hlo
  have hgp := hG.lt
  go_wp2_with fail
  refine (HS.out _).mono ?_
  rintro e w2 ⟨rfl, hb2⟩
  replace hG := Blk.by hb2 (hG.past (.cells #[.int .i64 kind, .slice (some ⟨g, 0, none⟩) 3 cap1, .int .i64 wd, .int .i64 len] 68))
  have k3 : Blk w2 w1.heap.size #[.int .i64 kind, .slice (some ⟨g, 0, none⟩) 3 cap1, .int .i64 wd, .int .i64 len] 68 := (by ((repeat (first | (with_reducible assumption) | (with_reducible refine Blk.drewN ?_ _) | (with_reducible refine Blk.drew ?_) | ((with_reducible refine Blk.new _ ?_); focus (first | omega | (simp; done) | (simp; omega))) | (with_reducible refine Blk.past ?_ _) | ((with_reducible refine Blk.apart ?_ _ _ _ ?_); rotate_left; focus (first | omega | (simp; done) | (simp; omega))) | (with_reducible refine Blk.by (by assumption) ?_))); done))
  have k4 : Blk w2 w.heap.size #[.int .i64 kind, .slice (some ⟨b, off, none⟩) 3 cap, .int .i64 wd, .int .i64 len] 68 := (by ((repeat (first | (with_reducible assumption) | (with_reducible refine Blk.drewN ?_ _) | (with_reducible refine Blk.drew ?_) | ((with_reducible refine Blk.new _ ?_); focus (first | omega | (simp; done) | (simp; omega))) | (with_reducible refine Blk.past ?_ _) | ((with_reducible refine Blk.apart ?_ _ _ _ ?_); rotate_left; focus (first | omega | (simp; done) | (simp; omega))) | (with_reducible refine Blk.by (by assumption) ?_))); done))
  have k5 : Blk w2 (w.heap.size + 1) #[.int .i64 0, .slice none 0 0, .int .i64 0, .int .i64 0] 68 := (by ((repeat (first | (with_reducible assumption) | (with_reducible refine Blk.drewN ?_ _) | (with_reducible refine Blk.drew ?_) | ((with_reducible refine Blk.new _ ?_); focus (first | omega | (simp; done) | (simp; omega))) | (with_reducible refine Blk.past ?_ _) | ((with_reducible refine Blk.apart ?_ _ _ _ ?_); rotate_left; focus (first | omega | (simp; done) | (simp; omega))) | (with_reducible refine Blk.by (by assumption) ?_))); done))
  have hW2 : Below w.heap.size w w2 := below_on hb2 (below_al hW _)
  clear c0 f0 l0 c1' f1 k0 k1 hb2 hW
  generalize w1.heap.size = px at *
  have c0 := k4.cell
  have c1' := k5.cell
  have f1 := k5.free
  have c2 := k3.cell
  have f2 := k3.free
  go_wp2_with fail
  refine (HF.out _).mono ?_
  rintro e w3 ⟨rfl, hb3⟩
  clear c0 c1' f1 c2 f2
  replace hG := Blk.by hb3 hG
  replace k3 := Blk.by hb3 k3
  replace k4 := Blk.by hb3 k4
  replace k5 := Blk.by hb3 k5
  replace hW2 := below_on hb3 hW2
  clear hb3
  have c0 := k4.cell
  have c1' := k5.cell
  have f1 := k5.free
  have c2 := k3.cell
  have f2 := k3.free
  have cp := cell_by' hW2 hp
  have cq := cell_by' hW2 hq
  have hG0 := hG' 1 p rfl
  have hG1 := hG' 2 q rfl
  have cg := hG.cell
  have fg := hG.free
  have wr1 : IntKind.i64.wrap 1 = 1 := by decide
  have wr2 : IntKind.i64.wrap 2 = 2 := by decide
  go_wp2_with fail
  go_region_held3 (fun w' => (Blk w' (w.heap.size) #[.int .i64 kind, .slice (some ⟨b, off, none⟩) 3 cap, .int .i64 wd, .int .i64 len] 68 ∧ ∀ o, w'.cell? ⟨w.heap.size, o, none⟩ = (#[.int .i64 kind, .slice (some ⟨b, off, none⟩) 3 cap, .int .i64 wd, .int .i64 len] : Array Value)[o]?) ∧ (Blk w' (px) #[.int .i64 kind, .slice (some ⟨g, 0, none⟩) 3 cap1, .int .i64 wd, .int .i64 len] 68 ∧ ∀ o, w'.cell? ⟨px, o, none⟩ = (#[.int .i64 kind, .slice (some ⟨g, 0, none⟩) 3 cap1, .int .i64 wd, .int .i64 len] : Array Value)[o]?) ∧ w'.cell? ⟨b, off + 1, none⟩ = some (.int .i64 p) ∧ w'.cell? ⟨b, off + 2, none⟩ = some (.int .i64 q) ∧ Below w.heap.size w w') (((try (obtain ⟨⟨hS0, _⟩, ⟨hS1, _⟩, _, _, hSB⟩ := hHeld)); refine ⟨Blk.both ?_, Blk.both ?_, cell_by' ?_ hp, cell_by' ?_ hq, ?_⟩ <;> first | ((repeat (first | (with_reducible assumption) | (with_reducible refine Blk.drewN ?_ _) | (with_reducible refine Blk.drew ?_) | ((with_reducible refine Blk.new _ ?_); focus (first | omega | (simp; done) | (simp; omega))) | (with_reducible refine Blk.past ?_ _) | ((with_reducible refine Blk.apart ?_ _ _ _ ?_); rotate_left; focus (first | omega | (simp; done) | (simp; omega))) | (with_reducible refine Blk.by (by assumption) ?_))); done) | ((repeat (first | (with_reducible exact Below.refl _ _) | (with_reducible refine below_drewN ?_ _) | (with_reducible refine Below.drew ?_) | (with_reducible refine below_al ?_ _) | (with_reducible refine below_on (by assumption) ?_) | ((with_reducible refine Below.setCell ?_ ?_ _); rotate_left; focus (first | omega | (simp; done) | (simp; omega))) | (with_reducible assumption))); done))) (fail)
  replace hG := (hG.set 1 (.int .i64 (if q < p then q else p))).drew
  replace k3 := (k3.apart g 1 (.int .i64 (if q < p then q else p)) (by omega)).drew
  replace k4 := (k4.apart g 1 (.int .i64 (if q < p then q else p)) (by omega)).drew
  replace k5 := (k5.apart g 1 (.int .i64 (if q < p then q else p)) (by omega)).drew
  replace hW2 : Below w.heap.size w (w3.setCell ⟨g, 1, none⟩ (.int .i64 (if q < p then q else p))).drew := (by ((repeat (first | (with_reducible exact Below.refl _ _) | (with_reducible refine below_drewN ?_ _) | (with_reducible refine Below.drew ?_) | (with_reducible refine below_al ?_ _) | (with_reducible refine below_on (by assumption) ?_) | ((with_reducible refine Below.setCell ?_ ?_ _); rotate_left; focus (first | omega | (simp; done) | (simp; omega))) | (with_reducible assumption))); done))
  clear c0 c1' f1 c2 f2 cp cq cg fg
  have hz1 : 1 < cs.size := by rcases Nat.lt_or_ge 1 cs.size with h | h; exact h; (rw [Array.getElem?_eq_none h] at hG0; cases hG0)
  have hz2 : 2 < cs.size := by rcases Nat.lt_or_ge 2 cs.size with h | h; exact h; (rw [Array.getElem?_eq_none h] at hG1; cases hG1)
  have c0 := k4.cell
  have c1' := k5.cell
  have f1 := k5.free
  have c2 := k3.cell
  have f2 := k3.free
  have cp := cell_by' hW2 hp
  have cq := cell_by' hW2 hq
  have cg := hG.cell
  have fg := hG.free
  have hG1 : (cs.setIfInBounds 1 (Value.int .i64 (if q < p then q else p)))[2]? = some (.int .i64 q) := by rw [Array.getElem?_setIfInBounds_ne (by omega)]; exact hG1
  have hMn : (cs.setIfInBounds 1 (Value.int .i64 (if q < p then q else p)))[1]? = some (.int .i64 (if q < p then q else p)) := by rw [Array.getElem?_setIfInBounds_self_of_lt hz1]
  have hR : (cs.setIfInBounds 1 (Value.int .i64 (if q < p then q else p)))[0]? = some (.int .i64 r) := by rw [Array.getElem?_setIfInBounds_ne (by omega)]; exact hG' 0 r rfl
  replace hz2 : 2 < (cs.setIfInBounds 1 (Value.int .i64 (if q < p then q else p))).size := by rw [Array.size_setIfInBounds]; exact hz2
  clear hz1 hG0 hG'
  generalize hm : (if q < p then q else p) = mn at *
  generalize cs.setIfInBounds 1 (Value.int .i64 mn) = cs2 at *
  generalize (w3.setCell ⟨g, 1, none⟩ (.int .i64 mn)).drew = w4 at *
  go_wp2_with fail
  go_region_held3 (fun w' => (Blk w' (w.heap.size) #[.int .i64 kind, .slice (some ⟨b, off, none⟩) 3 cap, .int .i64 wd, .int .i64 len] 68 ∧ ∀ o, w'.cell? ⟨w.heap.size, o, none⟩ = (#[.int .i64 kind, .slice (some ⟨b, off, none⟩) 3 cap, .int .i64 wd, .int .i64 len] : Array Value)[o]?) ∧ (Blk w' (px) #[.int .i64 kind, .slice (some ⟨g, 0, none⟩) 3 cap1, .int .i64 wd, .int .i64 len] 68 ∧ ∀ o, w'.cell? ⟨px, o, none⟩ = (#[.int .i64 kind, .slice (some ⟨g, 0, none⟩) 3 cap1, .int .i64 wd, .int .i64 len] : Array Value)[o]?) ∧ w'.cell? ⟨b, off + 1, none⟩ = some (.int .i64 p) ∧ w'.cell? ⟨b, off + 2, none⟩ = some (.int .i64 q) ∧ Below w.heap.size w w') (((try (obtain ⟨⟨hS0, _⟩, ⟨hS1, _⟩, _, _, hSB⟩ := hHeld)); refine ⟨Blk.both ?_, Blk.both ?_, cell_by' ?_ hp, cell_by' ?_ hq, ?_⟩ <;> first | ((repeat (first | (with_reducible assumption) | (with_reducible refine Blk.drewN ?_ _) | (with_reducible refine Blk.drew ?_) | ((with_reducible refine Blk.new _ ?_); focus (first | omega | (simp; done) | (simp; omega))) | (with_reducible refine Blk.past ?_ _) | ((with_reducible refine Blk.apart ?_ _ _ _ ?_); rotate_left; focus (first | omega | (simp; done) | (simp; omega))) | (with_reducible refine Blk.by (by assumption) ?_))); done) | ((repeat (first | (with_reducible exact Below.refl _ _) | (with_reducible refine below_drewN ?_ _) | (with_reducible refine Below.drew ?_) | (with_reducible refine below_al ?_ _) | (with_reducible refine below_on (by assumption) ?_) | ((with_reducible refine Below.setCell ?_ ?_ _); rotate_left; focus (first | omega | (simp; done) | (simp; omega))) | (with_reducible assumption))); done))) (fail)
  replace hG := (hG.set 2 (.int .i64 (if p < q then q else p))).drew
  replace k3 := (k3.apart g 2 (.int .i64 (if p < q then q else p)) (by omega)).drew
  replace k5 := (k5.apart g 2 (.int .i64 (if p < q then q else p)) (by omega)).drew
  replace hW2 : Below w.heap.size w (w4.setCell ⟨g, 2, none⟩ (.int .i64 (if p < q then q else p))).drew := (by ((repeat (first | (with_reducible exact Below.refl _ _) | (with_reducible refine below_drewN ?_ _) | (with_reducible refine Below.drew ?_) | (with_reducible refine below_al ?_ _) | (with_reducible refine below_on (by assumption) ?_) | ((with_reducible refine Below.setCell ?_ ?_ _); rotate_left; focus (first | omega | (simp; done) | (simp; omega))) | (with_reducible assumption))); done))
  clear c0 c1' f1 c2 f2 cp cq cg fg k4
  have c1' := k5.cell
  have f1 := k5.free
  have c2 := k3.cell
  have f2 := k3.free
  replace hMn : (cs2.setIfInBounds 2 (Value.int .i64 (if p < q then q else p)))[1]? = some (.int .i64 mn) := by rw [Array.getElem?_setIfInBounds_ne (by omega)]; exact hMn
  have hMx : (cs2.setIfInBounds 2 (Value.int .i64 (if p < q then q else p)))[2]? = some (.int .i64 (if p < q then q else p)) := by rw [Array.getElem?_setIfInBounds_self_of_lt hz2]
  replace hR : (cs2.setIfInBounds 2 (Value.int .i64 (if p < q then q else p)))[0]? = some (.int .i64 r) := by rw [Array.getElem?_setIfInBounds_ne (by omega)]; exact hR
  clear hG1 hz2
  generalize hm' : (if p < q then q else p) = mx at *
  generalize cs2.setIfInBounds 2 (Value.int .i64 mx) = cs3 at *
  generalize (w4.setCell ⟨g, 2, none⟩ (.int .i64 mx)).drew = w5 at *
  have HM := Lib.hid (show mn = min p q from by rw [← hm]; split <;> omega)
  have HX := Lib.hid (show mx = max p q from by rw [← hm']; split <;> omega)
  clear hm hm'
  go_wp2
  refine bodyPost_ret (v := .agg #[.int .i64 kind, .slice (some ⟨g, 0, none⟩) 3 cap1, .int .i64 wd, .int .i64 len]) (by simp [results, Try.results85, go_sem, *]) rfl ⟨_, rfl, ?_, (by ((repeat (first | (with_reducible exact Below.refl _ _) | (with_reducible refine below_drewN ?_ _) | (with_reducible refine Below.drew ?_) | (with_reducible refine below_al ?_ _) | (with_reducible refine below_on (by assumption) ?_) | ((with_reducible refine Below.setCell ?_ ?_ _); rotate_left; focus (first | omega | (simp; done) | (simp; omega))) | (with_reducible assumption))); done))⟩
  refine .inr ⟨g, cap1, cs3, rfl, by omega, hcap, hmax, (by ((repeat (first | (with_reducible assumption) | (with_reducible refine Blk.drewN ?_ _) | (with_reducible refine Blk.drew ?_) | ((with_reducible refine Blk.new _ ?_); focus (first | omega | (simp; done) | (simp; omega))) | (with_reducible refine Blk.past ?_ _) | ((with_reducible refine Blk.apart ?_ _ _ _ ?_); rotate_left; focus (first | omega | (simp; done) | (simp; omega))) | (with_reducible refine Blk.by (by assumption) ?_))); done)), ?_⟩
  rw [← HM.out, ← HX.out]
  intro i x hx
  match i, hx with
  | 0, hx => obtain rfl := Option.some.inj hx; exact hR
  | 1, hx => obtain rfl := Option.some.inj hx; exact hMn
  | 2, hx => obtain rfl := Option.some.inj hx; exact hMx
  | (_ + 3), hx => simp at hx
end Go.Proofs.Ytjldkejegdljiaa
