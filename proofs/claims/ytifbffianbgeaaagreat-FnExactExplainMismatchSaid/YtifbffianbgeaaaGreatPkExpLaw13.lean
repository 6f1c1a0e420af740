/- Contracts and plain laws, part 13, for the statement's proof. -/
import Derived.Test.YtifbffianbgeaaaGreatPkExpLaw12
import Derived.BigRegion
import Derived.Deep.RegionHeld3
import Derived.BigQuiet
import Derived.Deep.DeepCutAuto
import Derived.Deep.CutRange
namespace Go.Proofs.YtifbffianbgeaaaGreat
open Go.RowKit
set_option linter.unusedVariables false
set_option linter.unusedSimpArgs false
set_option maxRecDepth 100000 in
set_option maxHeartbeats 4000000 in
theorem implNorm_no (kind wd len : Int) (sv : Value) (zs : List Int) (w : World) (h : IntSl w sv zs) (hn : zs.length ≤ 1048576) (hno : ¬ (0 < pinc kind ∧ (zs.length : Int) = pinc kind)) :
    Calls Tryz.prog 63 #[.agg #[.int .i64 kind, sv, .int .i64 wd, .int .i64 len]] w fun e w' => ∃ v, e = .returned (.agg #[.int .i64 kind, v, .int .i64 wd, .int .i64 len]) ∧ OwnI w' w.heap.size v zs ∧ Below w.heap.size w w' := by
  have HC := Lib.hid (fun w h => copyDevice_any kind wd len sv zs w h hn)
  have h1 := h.by (((Below.refl _ w).alloc (Nat.le_refl _) (.cells #[.int .i64 kind, sv, .int .i64 wd, .int .i64 len] 62)).alloc (by simp) (.cells #[.int .i64 0, .slice none 0 0, .int .i64 0, .int .i64 0] 62))
  obtain ⟨a, c, rfl⟩ := h.len
  clear h
  have HP := Lib.hid (fun w => pinCount_any kind w)
  obtain ⟨m, hm⟩ : ∃ m, pinc kind = m := ⟨_, rfl⟩
  have hm0 : 0 ≤ m ∧ m ≤ 3 := by rw [← hm]; unfold pinc; (repeat' split) <;> omega
  rw [hm] at hno HP
  clear hm
  go_enter Tryz.func63, Tryz.ntmps63
  go_wp2_with fail
  refine (HC.out _ h1).mono ?_
  rintro e w1 ⟨v, rfl, hO, hb1⟩
  clear h1
  have k0 : Blk w1 w.heap.size #[.int .i64 kind, .slice a zs.length c, .int .i64 wd, .int .i64 len] 62 := blkT
  have k1 : Blk w1 (w.heap.size + 1) #[.int .i64 0, .slice none 0 0, .int .i64 0, .int .i64 0] 62 := blkT
  have hW : Below w.heap.size w w1 := blwT
  clear hb1
  have c0 := k0.cell
  have f0 := k0.free
  have l0 := k0.lt
  have c1' := k1.cell
  have f1 := k1.free
  have l1 := k1.lt
  obtain ⟨a1, c1, rfl⟩ := hO.len
  simp at hO
  have hO' := hO.alloc (.cells #[.int .i64 kind, .slice a1 zs.length c1, .int .i64 wd, .int .i64 len] 62)
  clear hO
  go_wp2_with fail
  refine (HP.out _).mono ?_
  rintro e w2 ⟨rfl, rfl⟩
  have k3 : Blk (w1.alloc (.cells #[.int .i64 kind, .slice a1 zs.length c1, .int .i64 wd, .int .i64 len] 62)) w1.heap.size #[.int .i64 kind, .slice a1 zs.length c1, .int .i64 wd, .int .i64 len] 62 := Blk.new _ rfl
  replace k0 := k0.past (.cells #[.int .i64 kind, .slice a1 zs.length c1, .int .i64 wd, .int .i64 len] 62)
  replace k1 := k1.past (.cells #[.int .i64 kind, .slice a1 zs.length c1, .int .i64 wd, .int .i64 len] 62)
  replace hW := below_al hW (.cells #[.int .i64 kind, .slice a1 zs.length c1, .int .i64 wd, .int .i64 len] 62)
  clear c0 f0 l0 c1' f1
  generalize w1.heap.size = px at *
  generalize w1.alloc (.cells #[.int .i64 kind, .slice a1 zs.length c1, .int .i64 wd, .int .i64 len] 62) = w2 at *
  have c0 := k0.cell
  have c1' := k1.cell
  have f1 := k1.free
  have c2 := k3.cell
  have f2 := k3.free
  by_cases hpos : 0 < m
  · have hne : decide ((zs.length : Int) = m) = false := decide_eq_false (fun h => hno ⟨hpos, h⟩)
    have hd : decide (0 < m) = true := decide_eq_true hpos
    have hne' : ¬ (zs.length : Int) = m := fun h => hno ⟨hpos, h⟩
    have hne2 : ((zs.length : Int) == m) = false := by simpa using hne'
    clear hno
    go_wp2
    go_quiet (fail)
    go_wp2
    refine bodyPost_ret (v := .agg #[.int .i64 kind, .slice a1 zs.length c1, .int .i64 wd, .int .i64 len]) (by simp [results, Tryz.results63, go_sem, *]) rfl ⟨_, rfl, ?_, blwT⟩
    refine OwnI.low ?_ (show w.heap.size ≤ w.heap.size + 2 by omega)
    repeat (first | (with_reducible exact hO') | (with_reducible refine OwnI.drewN ?_ _) | ((with_reducible refine OwnI.apart ?_ _ _ _ ?_); rotate_left; focus omega))
  · have hd : decide (0 < m) = false := decide_eq_false hpos
    clear hno
    go_wp2
    go_quiet (fail)
    go_wp2
    refine bodyPost_ret (v := .agg #[.int .i64 kind, .slice a1 zs.length c1, .int .i64 wd, .int .i64 len]) (by simp [results, Tryz.results63, go_sem, *]) rfl ⟨_, rfl, ?_, blwT⟩
    refine OwnI.low ?_ (show w.heap.size ≤ w.heap.size + 2 by omega)
    repeat (first | (with_reducible exact hO') | (with_reducible refine OwnI.drewN ?_ _) | ((with_reducible refine OwnI.apart ?_ _ _ _ ?_); rotate_left; focus omega))
set_option maxRecDepth 100000 in
set_option maxHeartbeats 4000000 in
theorem implNorm_two (kind wd len : Int) (sv : Value) (p q : Int) (w : World) (h : IntSl w sv [p, q]) (hk : pinc kind = 2) :
    Calls Tryz.prog 63 #[.agg #[.int .i64 kind, sv, .int .i64 wd, .int .i64 len]] w fun e w' => ∃ v, e = .returned (.agg #[.int .i64 kind, v, .int .i64 wd, .int .i64 len]) ∧ OwnI w' w.heap.size v [min p q, max p q] ∧ Below w.heap.size w w' := by
  have HC := Lib.hid (fun w h => copyDevice_any kind wd len sv [p, q] w h (by simp))
  have h1 := h.by (((Below.refl _ w).alloc (Nat.le_refl _) (.cells #[.int .i64 kind, sv, .int .i64 wd, .int .i64 len] 62)).alloc (by simp) (.cells #[.int .i64 0, .slice none 0 0, .int .i64 0, .int .i64 0] 62))
  rcases h with ⟨_, _, _, h2⟩ | ⟨b, off, cap, hsv, h2, h3, h4⟩
  · simp at h2
  simp only [List.length_cons, List.length_nil, Nat.zero_add, Nat.reduceAdd] at hsv h2
  subst hsv
  clear h4
  have HP := Lib.hid (fun w => pinCount_any kind w)
  rw [hk] at HP
  clear hk
  go_enter Tryz.func63, Tryz.ntmps63
  go_wp2_with fail
  refine (HC.out _ h1).mono ?_
  rintro e w1 ⟨v, rfl, hO, hb1⟩
  clear h1
  have k0 : Blk w1 w.heap.size #[.int .i64 kind, .slice (some ⟨b, off, none⟩) 2 cap, .int .i64 wd, .int .i64 len] 62 := blkT
  have k1 : Blk w1 (w.heap.size + 1) #[.int .i64 0, .slice none 0 0, .int .i64 0, .int .i64 0] 62 := blkT
  have hW : Below w.heap.size w w1 := blwT
  clear hb1
  have c0 := k0.cell
  have f0 := k0.free
  have l0 := k0.lt
  have c1' := k1.cell
  have f1 := k1.free
  have l1 := k1.lt
  rcases hO with ⟨_, _, _, hO⟩ | ⟨g, cap1, cs, hv, hlo, hcap, hmax, hG, hG'⟩
  · simp at hO
  simp only [List.length_cons, List.length_nil, Nat.zero_add, Nat.reduceAdd] at hv hcap
  subst hv
  simp at hlo
  have hgp := hG.lt
  replace hG := hG.past (.cells #[.int .i64 kind, .slice (some ⟨g, 0, none⟩) 2 cap1, .int .i64 wd, .int .i64 len] 62)
  go_wp2_with fail
  refine (HP.out _).mono ?_
  rintro e w2 ⟨rfl, rfl⟩
  have k3 : Blk (w1.alloc (.cells #[.int .i64 kind, .slice (some ⟨g, 0, none⟩) 2 cap1, .int .i64 wd, .int .i64 len] 62)) w1.heap.size #[.int .i64 kind, .slice (some ⟨g, 0, none⟩) 2 cap1, .int .i64 wd, .int .i64 len] 62 := Blk.new _ rfl
  replace k0 := k0.past (.cells #[.int .i64 kind, .slice (some ⟨g, 0, none⟩) 2 cap1, .int .i64 wd, .int .i64 len] 62)
  replace k1 := k1.past (.cells #[.int .i64 kind, .slice (some ⟨g, 0, none⟩) 2 cap1, .int .i64 wd, .int .i64 len] 62)
  replace hW := below_al hW (.cells #[.int .i64 kind, .slice (some ⟨g, 0, none⟩) 2 cap1, .int .i64 wd, .int .i64 len] 62)
  clear c0 f0 l0 c1' f1
  generalize w1.heap.size = px at *
  generalize w1.alloc (.cells #[.int .i64 kind, .slice (some ⟨g, 0, none⟩) 2 cap1, .int .i64 wd, .int .i64 len] 62) = w2 at *
  have c0 := k0.cell
  have c1' := k1.cell
  have f1 := k1.free
  have c2 := k3.cell
  have f2 := k3.free
  have hG0 := hG' 0 p rfl
  have hG1 := hG' 1 q rfl
  have cg := hG.cell
  have fg := hG.free
  have cp : w2.cell? ⟨g, 0, none⟩ = some (.int .i64 p) := (hG.cell 0).trans hG0
  have cq : w2.cell? ⟨g, 1, none⟩ = some (.int .i64 q) := (hG.cell 1).trans hG1
  have wr0 : IntKind.i64.wrap 0 = 0 := by decide
  have wr1 : IntKind.i64.wrap 1 = 1 := by decide
  have wr2 : IntKind.i64.wrap 2 = 2 := by decide
  clear hG'
  by_cases hpq : q < p
  · have hd : decide (q < p) = true := decide_eq_true hpq
    go_wp2
    go_quiet (fail)
    have e1 : min p q = q := by omega
    have e2 : max p q = p := by omega
    have E1 := Lib.hid e1
    have E2 := Lib.hid e2
    clear e1 e2 hpq
    go_wp2_with fail
    replace hG := hG.drewN nq
    replace k1 := k1.drewN nq
    replace k3 := k3.drewN nq
    replace hW := below_drewN hW nq
    clear c0 c1' f1 c2 f2 cg fg cp cq k0
    generalize w2.drewN nq = w3 at *
    have c1' := k1.cell
    have f1 := k1.free
    have c2 := k3.cell
    have f2 := k3.free
    have cp : w3.cell? ⟨g, 0, none⟩ = some (.int .i64 p) := (hG.cell 0).trans hG0
    have cq : w3.cell? ⟨g, 1, none⟩ = some (.int .i64 q) := (hG.cell 1).trans hG1
    have fg := hG.free
    go_region
    have hs0 : 0 < cs.size := by rcases Nat.lt_or_ge 0 cs.size with h | h; exact h; (rw [Array.getElem?_eq_none h] at hG0; cases hG0)
    have hs1 : 1 < cs.size := by rcases Nat.lt_or_ge 1 cs.size with h | h; exact h; (rw [Array.getElem?_eq_none h] at hG1; cases hG1)
    replace hG : Blk (((w3.setCell ⟨g, 0, none⟩ (.int .i64 q)).setCell ⟨g, 1, none⟩ (.int .i64 p)).drew) g ((cs.setIfInBounds 0 (.int .i64 q)).setIfInBounds 1 (.int .i64 p)) 2 := ((hG.set 0 (.int .i64 q)).set 1 (.int .i64 p)).drew
    replace k1 := ((k1.apart g 0 (.int .i64 q) (by omega)).apart g 1 (.int .i64 p) (by omega)).drew
    replace k3 := ((k3.apart g 0 (.int .i64 q) (by omega)).apart g 1 (.int .i64 p) (by omega)).drew
    replace hW : Below w.heap.size w (((w3.setCell ⟨g, 0, none⟩ (.int .i64 q)).setCell ⟨g, 1, none⟩ (.int .i64 p)).drew) := blwT
    skip
    have hA : ((cs.setIfInBounds 0 (.int .i64 q)).setIfInBounds 1 (.int .i64 p))[0]? = some (.int .i64 q) := by rw [Array.getElem?_setIfInBounds_ne (by omega), Array.getElem?_setIfInBounds_self_of_lt hs0]
    have hB : ((cs.setIfInBounds 0 (.int .i64 q)).setIfInBounds 1 (.int .i64 p))[1]? = some (.int .i64 p) := by rw [Array.getElem?_setIfInBounds_self_of_lt (by rw [Array.size_setIfInBounds]; exact hs1)]
    clear c1' f1 c2 f2 cp cq fg hG0 hG1 hs0 hs1
    generalize (cs.setIfInBounds 0 (Value.int .i64 q)).setIfInBounds 1 (Value.int .i64 p) = cs2 at *
    generalize ((w3.setCell ⟨g, 0, none⟩ (.int .i64 q)).setCell ⟨g, 1, none⟩ (.int .i64 p)).drew = w4 at *
    have c1' := k1.cell
    have f1 := k1.free
    have c2 := k3.cell
    have f2 := k3.free
    go_wp2
    refine bodyPost_ret (v := .agg #[.int .i64 kind, .slice (some ⟨g, 0, none⟩) 2 cap1, .int .i64 wd, .int .i64 len]) (by simp [results, Tryz.results63, go_sem, *]) rfl ⟨_, rfl, ?_, blwT⟩
    refine .inr ⟨g, cap1, cs2, rfl, by omega, hcap, hmax, blkT, ?_⟩
    rw [E1.out, E2.out]
    intro i x hx
    match i, hx with
    | 0, hx => obtain rfl := Option.some.inj hx; exact hA
    | 1, hx => obtain rfl := Option.some.inj hx; exact hB
    | (_ + 2), hx => simp at hx
  · have hd : decide (q < p) = false := decide_eq_false hpq
    have e1 : min p q = p := by omega
    have e2 : max p q = q := by omega
    have E1 := Lib.hid e1
    have E2 := Lib.hid e2
    clear e1 e2 hpq
    go_wp2
    go_quiet (fail)
    go_wp2
    refine bodyPost_ret (v := .agg #[.int .i64 kind, .slice (some ⟨g, 0, none⟩) 2 cap1, .int .i64 wd, .int .i64 len]) (by simp [results, Tryz.results63, go_sem, *]) rfl ⟨_, rfl, ?_, blwT⟩
    refine .inr ⟨g, cap1, cs, rfl, by omega, hcap, hmax, blkT, ?_⟩
    rw [E1.out, E2.out]
    intro i x hx
    match i, hx with
    | 0, hx => obtain rfl := Option.some.inj hx; exact hG0
    | 1, hx => obtain rfl := Option.some.inj hx; exact hG1
    | (_ + 2), hx => simp at hx
set_option maxRecDepth 100000 in
set_option maxHeartbeats 4000000 in
theorem implNorm_three (kind wd len : Int) (sv : Value) (r p q : Int) (w : World) (h : IntSl w sv [r, p, q]) (hk : pinc kind = 3) :
    Calls Tryz.prog 63 #[.agg #[.int .i64 kind, sv, .int .i64 wd, .int .i64 len]] w fun e w' => ∃ v, e = .returned (.agg #[.int .i64 kind, v, .int .i64 wd, .int .i64 len]) ∧ OwnI w' w.heap.size v [r, min p q, max p q] ∧ Below w.heap.size w w' := by
  have HC := Lib.hid (fun w h => copyDevice_any kind wd len sv [r, p, q] w h (by simp))
  have h1 := h.by (((Below.refl _ w).alloc (Nat.le_refl _) (.cells #[.int .i64 kind, sv, .int .i64 wd, .int .i64 len] 62)).alloc (by simp) (.cells #[.int .i64 0, .slice none 0 0, .int .i64 0, .int .i64 0] 62))
  rcases h with ⟨_, _, _, h2⟩ | ⟨b, off, cap, hsv, h2, h3, h4⟩
  · simp at h2
  simp only [List.length_cons, List.length_nil, Nat.zero_add, Nat.reduceAdd] at hsv h2
  subst hsv
  clear h4
  have HP := Lib.hid (fun w => pinCount_any kind w)
  rw [hk] at HP
  clear hk
  go_enter Tryz.func63, Tryz.ntmps63
  go_wp2_with fail
  refine (HC.out _ h1).mono ?_
  rintro e w1 ⟨v, rfl, hO, hb1⟩
  clear h1
  have k0 : Blk w1 w.heap.size #[.int .i64 kind, .slice (some ⟨b, off, none⟩) 3 cap, .int .i64 wd, .int .i64 len] 62 := blkT
  have k1 : Blk w1 (w.heap.size + 1) #[.int .i64 0, .slice none 0 0, .int .i64 0, .int .i64 0] 62 := blkT
  have hW : Below w.heap.size w w1 := blwT
  clear hb1
  have c0 := k0.cell
  have f0 := k0.free
  have l0 := k0.lt
  have c1' := k1.cell
  have f1 := k1.free
  have l1 := k1.lt
  rcases hO with ⟨_, _, _, hO⟩ | ⟨g, cap1, cs, hv, hlo, hcap, hmax, hG, hG'⟩
  · simp at hO
  simp only [List.length_cons, List.length_nil, Nat.zero_add, Nat.reduceAdd] at hv hcap
  subst hv
  simp at hlo
  have hgp := hG.lt
  replace hG := hG.past (.cells #[.int .i64 kind, .slice (some ⟨g, 0, none⟩) 3 cap1, .int .i64 wd, .int .i64 len] 62)
  go_wp2_with fail
  refine (HP.out _).mono ?_
  rintro e w2 ⟨rfl, rfl⟩
  have k3 : Blk (w1.alloc (.cells #[.int .i64 kind, .slice (some ⟨g, 0, none⟩) 3 cap1, .int .i64 wd, .int .i64 len] 62)) w1.heap.size #[.int .i64 kind, .slice (some ⟨g, 0, none⟩) 3 cap1, .int .i64 wd, .int .i64 len] 62 := Blk.new _ rfl
  replace k0 := k0.past (.cells #[.int .i64 kind, .slice (some ⟨g, 0, none⟩) 3 cap1, .int .i64 wd, .int .i64 len] 62)
  replace k1 := k1.past (.cells #[.int .i64 kind, .slice (some ⟨g, 0, none⟩) 3 cap1, .int .i64 wd, .int .i64 len] 62)
  replace hW := below_al hW (.cells #[.int .i64 kind, .slice (some ⟨g, 0, none⟩) 3 cap1, .int .i64 wd, .int .i64 len] 62)
  clear c0 f0 l0 c1' f1
  generalize w1.heap.size = px at *
  generalize w1.alloc (.cells #[.int .i64 kind, .slice (some ⟨g, 0, none⟩) 3 cap1, .int .i64 wd, .int .i64 len] 62) = w2 at *
  have c0 := k0.cell
  have c1' := k1.cell
  have f1 := k1.free
  have c2 := k3.cell
  have f2 := k3.free
  have hR := hG' 0 r rfl
  have hG0 := hG' 1 p rfl
  have hG1 := hG' 2 q rfl
  have cg := hG.cell
  have fg := hG.free
  have cp : w2.cell? ⟨g, 1, none⟩ = some (.int .i64 p) := (hG.cell 1).trans hG0
  have cq : w2.cell? ⟨g, 2, none⟩ = some (.int .i64 q) := (hG.cell 2).trans hG1
  have wr0 : IntKind.i64.wrap 0 = 0 := by decide
  have wr1 : IntKind.i64.wrap 1 = 1 := by decide
  have wr2 : IntKind.i64.wrap 2 = 2 := by decide
  clear hG'
  by_cases hpq : q < p
  · have hd : decide (q < p) = true := decide_eq_true hpq
    go_wp2
    go_quiet (fail)
    have e1 : min p q = q := by omega
    have e2 : max p q = p := by omega
    have E1 := Lib.hid e1
    have E2 := Lib.hid e2
    clear e1 e2 hpq
    go_wp2_with fail
    replace hG := hG.drewN nq
    replace k1 := k1.drewN nq
    replace k3 := k3.drewN nq
    replace hW := below_drewN hW nq
    clear c0 c1' f1 c2 f2 cg fg cp cq k0
    generalize w2.drewN nq = w3 at *
    have c1' := k1.cell
    have f1 := k1.free
    have c2 := k3.cell
    have f2 := k3.free
    have cp : w3.cell? ⟨g, 1, none⟩ = some (.int .i64 p) := (hG.cell 1).trans hG0
    have cq : w3.cell? ⟨g, 2, none⟩ = some (.int .i64 q) := (hG.cell 2).trans hG1
    have fg := hG.free
    go_region
    have hs0 : 1 < cs.size := by rcases Nat.lt_or_ge 1 cs.size with h | h; exact h; (rw [Array.getElem?_eq_none h] at hG0; cases hG0)
    have hs1 : 2 < cs.size := by rcases Nat.lt_or_ge 2 cs.size with h | h; exact h; (rw [Array.getElem?_eq_none h] at hG1; cases hG1)
    replace hG : Blk (((w3.setCell ⟨g, 1, none⟩ (.int .i64 q)).setCell ⟨g, 2, none⟩ (.int .i64 p)).drew) g ((cs.setIfInBounds 1 (.int .i64 q)).setIfInBounds 2 (.int .i64 p)) 2 := ((hG.set 1 (.int .i64 q)).set 2 (.int .i64 p)).drew
    replace k1 := ((k1.apart g 1 (.int .i64 q) (by omega)).apart g 2 (.int .i64 p) (by omega)).drew
    replace k3 := ((k3.apart g 1 (.int .i64 q) (by omega)).apart g 2 (.int .i64 p) (by omega)).drew
    replace hW : Below w.heap.size w (((w3.setCell ⟨g, 1, none⟩ (.int .i64 q)).setCell ⟨g, 2, none⟩ (.int .i64 p)).drew) := blwT
    replace hR : ((cs.setIfInBounds 1 (.int .i64 q)).setIfInBounds 2 (.int .i64 p))[0]? = some (.int .i64 r) := by rw [Array.getElem?_setIfInBounds_ne (by omega), Array.getElem?_setIfInBounds_ne (by omega)]; exact hR
    have hA : ((cs.setIfInBounds 1 (.int .i64 q)).setIfInBounds 2 (.int .i64 p))[1]? = some (.int .i64 q) := by rw [Array.getElem?_setIfInBounds_ne (by omega), Array.getElem?_setIfInBounds_self_of_lt hs0]
    have hB : ((cs.setIfInBounds 1 (.int .i64 q)).setIfInBounds 2 (.int .i64 p))[2]? = some (.int .i64 p) := by rw [Array.getElem?_setIfInBounds_self_of_lt (by rw [Array.size_setIfInBounds]; exact hs1)]
    clear c1' f1 c2 f2 cp cq fg hG0 hG1 hs0 hs1
    generalize (cs.setIfInBounds 1 (Value.int .i64 q)).setIfInBounds 2 (Value.int .i64 p) = cs2 at *
    generalize ((w3.setCell ⟨g, 1, none⟩ (.int .i64 q)).setCell ⟨g, 2, none⟩ (.int .i64 p)).drew = w4 at *
    have c1' := k1.cell
    have f1 := k1.free
    have c2 := k3.cell
    have f2 := k3.free
    go_wp2
    refine bodyPost_ret (v := .agg #[.int .i64 kind, .slice (some ⟨g, 0, none⟩) 3 cap1, .int .i64 wd, .int .i64 len]) (by simp [results, Tryz.results63, go_sem, *]) rfl ⟨_, rfl, ?_, blwT⟩
    refine .inr ⟨g, cap1, cs2, rfl, by omega, hcap, hmax, blkT, ?_⟩
    rw [E1.out, E2.out]
    intro i x hx
    match i, hx with
    | 0, hx => obtain rfl := Option.some.inj hx; exact hR
    | 1, hx => obtain rfl := Option.some.inj hx; exact hA
    | 2, hx => obtain rfl := Option.some.inj hx; exact hB
    | (_ + 3), hx => simp at hx
  · have hd : decide (q < p) = false := decide_eq_false hpq
    have e1 : min p q = p := by omega
    have e2 : max p q = q := by omega
    have E1 := Lib.hid e1
    have E2 := Lib.hid e2
    clear e1 e2 hpq
    go_wp2
    go_quiet (fail)
    go_wp2
    refine bodyPost_ret (v := .agg #[.int .i64 kind, .slice (some ⟨g, 0, none⟩) 3 cap1, .int .i64 wd, .int .i64 len]) (by simp [results, Tryz.results63, go_sem, *]) rfl ⟨_, rfl, ?_, blwT⟩
    refine .inr ⟨g, cap1, cs, rfl, by omega, hcap, hmax, blkT, ?_⟩
    rw [E1.out, E2.out]
    intro i x hx
    match i, hx with
    | 0, hx => obtain rfl := Option.some.inj hx; exact hR
    | 1, hx => obtain rfl := Option.some.inj hx; exact hG0
    | 2, hx => obtain rfl := Option.some.inj hx; exact hG1
    | (_ + 3), hx => simp at hx
/- The program's NormalizeDevice: one contract. -/
theorem implNorm_any (kind wd len : Int) (sv : Value) (zs : List Int) (w : World) (h : IntSl w sv zs) (hn : zs.length ≤ 1048576) :
    Calls Tryz.prog 63 #[.agg #[.int .i64 kind, sv, .int .i64 wd, .int .i64 len]] w fun e w' => ∃ v, e = .returned (.agg #[.int .i64 kind, v, .int .i64 wd, .int .i64 len]) ∧ OwnI w' w.heap.size v (normz kind zs) ∧ Below w.heap.size w w' := by
  by_cases hs : 0 < pinc kind ∧ (zs.length : Int) = pinc kind
  · rcases normz_yes hs with ⟨p, q, rfl, hk, e⟩ | ⟨r, p, q, rfl, hk, e⟩
    · rw [e]; exact implNorm_two kind wd len sv p q w h hk
    · rw [e]; exact implNorm_three kind wd len sv r p q w h hk
  · rw [normz_no hs]; exact implNorm_no kind wd len sv zs w h hn hs
set_option maxRecDepth 100000 in
set_option maxHeartbeats 2000000 in
theorem moved_any (x : Dv) (names : List Int) (sx sn : Value) (w : World) (h : IntSl w sx x.pins) (hn : IntSl w sn names) (hxl : x.pins.length ≤ 3) (hxn : x.pins ≠ []) (hxp : ∀ z ∈ x.pins, 0 ≤ z ∧ z < names.length) :
    Calls Tryz.prog 120 #[.agg #[.int .i64 x.kind, sx, .int .i64 x.wd, .int .i64 x.len], sn] w fun e w' => ∃ v, e = .returned (.agg #[.int .i64 x.kind, v, .int .i64 x.wd, .int .i64 x.len]) ∧ IntSl w' v (x.pins.map (nmOf names)) ∧ Below w.heap.size w w' := by
  have HN := Lib.hid hn
  have HX := Lib.hid h
  have HCD := Lib.hid (fun w h => own_any x.kind x.wd x.len sx x.pins w h (by omega))
  have HXN := Lib.hid hxn
  have HXP := Lib.hid hxp
  obtain ⟨ax, cx, rfl⟩ := h.len
  obtain ⟨an, cn, rfl⟩ := hn.len
  clear h hn hxn hxp
  go_enter Tryz.func120, Tryz.ntmps120
  go_wp2_with fail
  refine (HCD.out _ (HX.out.by blwT)).mono ?_
  rintro e w1 ⟨v1, rfl, hOI, hb1⟩
  obtain ⟨fb, hf1, hf2, hOR⟩ := hOI.pin HXN.out
  obtain ⟨gb, capb, csb, rfl, hgb, hcb, hmb, kB0, HIC0⟩ := hOR.cells HXN.out
  have hgf : gb = fb := by omega
  subst hgf
  have kZ : Blk w1 (w.heap.size + 1) #[.int .i64 0, .slice none 0 0, .int .i64 0, .int .i64 0] 62 := blkT
  have hb : Below w.heap.size w w1 := blwT
  have HICH := Lib.hid HIC0
  have hbs := hb1.size
  simp only [World.size_alloc] at hbs hf1
  have lZ := kZ.lt
  obtain ⟨Q, hQ⟩ : ∃ Q, w1.heap.size = Q := ⟨_, rfl⟩
  have HQ := Lib.hid hQ
  have hQl : w.heap.size + 1 < Q := by omega
  have hgQ : gb < Q := by omega
  clear hb1 hOI hOR HIC0 hQ
  go_wp2
  rw [HQ.out]
  have hIC : ICs csb (renTo names x.pins 0) := by rw [renTo_zero]; exact HICH.out
  obtain ⟨wA, hwA⟩ : ∃ wA, wA = w1.alloc (.cells #[.int .i64 x.kind, .slice (some ⟨gb, 0, none⟩) x.pins.length capb, .int .i64 x.wd, .int .i64 x.len] 62) := ⟨_, rfl⟩
  have kD : Blk wA Q #[.int .i64 x.kind, .slice (some ⟨gb, 0, none⟩) x.pins.length capb, .int .i64 x.wd, .int .i64 x.len] 62 := by rw [hwA]; exact Blk.new _ HQ.out.symm
  have kBA : Blk wA gb csb 2 := by rw [hwA]; exact kB0.past _
  have kZA : Blk wA (w.heap.size + 1) #[.int .i64 0, .slice none 0 0, .int .i64 0, .int .i64 0] 62 := by rw [hwA]; exact kZ.past _
  have hbA : Below w.heap.size w wA := by rw [hwA]; exact below_al hb _
  rw [← hwA]
  clear hwA HICH kB0 kZ hb lZ hbs
  go_loopw [6] (fun i wr2 => ∃ m : Nat, m ≤ x.pins.length ∧ i = .int .i64 m ∧ Blk wr2 Q #[.int .i64 x.kind, .slice (some ⟨gb, 0, none⟩) x.pins.length capb, .int .i64 x.wd, .int .i64 x.len] 62 ∧ (∃ cs, Blk wr2 gb cs 2 ∧ Hid (ICs cs (renTo names x.pins m))) ∧ Within gb (gb + 1) wA wr2) (fun i _ => x.pins.length - (intOf i).toNat)
  case atStart => exact ⟨0, Nat.zero_le _, rfl, kD, ⟨csb, kBA, Lib.hid hIC⟩, Within.refl _ _ _⟩
  case round =>
    clear kD kBA hIC
    obtain ⟨m, hm, rfl, kD, ⟨cs, kB, HIC⟩, hW2⟩ := hrel
    have cD := kD.cell
    by_cases hlt2 : m < x.pins.length
    · obtain ⟨z, hz⟩ : ∃ z, x.pins[m]? = some z := ⟨x.pins[m], List.getElem?_eq_getElem hlt2⟩
      obtain ⟨hz0, hz1⟩ := HXP.out z (List.mem_of_getElem? hz)
      have cB := kB.cell
      have fB := kB.free
      have cz := HIC.out m z (renTo_get names x.pins m z hz)
      have hNw := HN.out.by (hW2.below hbA (by omega))
      obtain ⟨q, rfl⟩ : ∃ q : Nat, z = q := ⟨z.toNat, by omega⟩
      rcases hNw with ⟨_, _, _, h2⟩ | ⟨nb, noff, ncap, hen, _, _, hcn⟩
      · rw [h2] at hz1; simp at hz1; omega
      obtain ⟨rfl, rfl⟩ : an = some ⟨nb, noff, none⟩ ∧ cn = ncap := by simpa using hen
      have hq : q < names.length := by omega
      have cn := hcn q names[q] (List.getElem?_eq_getElem hq)
      have hnm : nmOf names (q : Int) = names[q] := by simp [nmOf, hq]
      have HZ := Lib.hid hz
      have HNMq := Lib.hid hnm
      generalize names[q] = y at *
      have j1 : (0 : Int) ≤ (m : Int) := by omega
      have j2 : (m : Int) < (x.pins.length : Int) := by omega
      clear hz hnm hen hcn hq
      go_wp2_with fail
      go_region
      all_goals go_wp2_with fail
      exact ⟨⟨m + 1, by omega, by go_num, (kD.apart gb m _ (by omega)).drew, ⟨cs.setIfInBounds m (.int .i64 y), (kB.set m _).drew, Lib.hid (by rw [← renTo_step names x.pins m q HZ.out, HNMq.out]; exact HIC.out.set m y)⟩, (hW2.set gb m _ (Nat.le_refl _) (by omega)).drewN 1⟩, by simp [intOf]; omega⟩
    · obtain rfl : m = x.pins.length := by omega
      have hIC1 : ICs cs (x.pins.map (nmOf names)) := by have := HIC.out; rwa [renTo_all] at this
      have hOR0 := hIC1.own kB (by rw [List.length_map]; exact hcb) hmb
      rw [List.length_map] at hOR0
      have kZ2 := hW2.blk kZA (by omega)
      have hb2 := hW2.below hbA (by omega)
      have HOR := Lib.hid hOR0
      have qZ := kZ2.cell
      have fZ := kZ2.free
      have lZ := kZ2.lt
      clear hIC1 hOR0 HIC
      go_wp2
      refine bodyPost_ret (v := .agg #[.int .i64 x.kind, .slice (some ⟨gb, 0, none⟩) x.pins.length capb, .int .i64 x.wd, .int .i64 x.len]) (by simp [results, Tryz.results120, go_sem, *]) rfl ⟨_, rfl, ?_, blwT⟩
      exact (((((HOR.out.past (Within.off _) (by omega)).past (Within.off _) (by omega)).past (Within.off _) (by omega)).past (Within.off _) (by omega)) : OwnR _ gb (gb + 1) _ _).sl
set_option maxRecDepth 100000 in
set_option maxHeartbeats 2000000 in
theorem mappedO_any (x : Dv) (names : List Int) (sx sn : Value) (w : World) (h : IntSl w sx x.pins) (hn : IntSl w sn names) (hxl : x.pins.length ≤ 3) (hxn : x.pins ≠ []) (hxp : ∀ z ∈ x.pins, 0 ≤ z ∧ z < names.length) :
    Calls Tryz.prog 67 #[.agg #[.int .i64 x.kind, sx, .int .i64 x.wd, .int .i64 x.len], sn] w fun e w' => ∃ v, e = .returned (.agg #[.int .i64 x.kind, v, .int .i64 x.wd, .int .i64 x.len]) ∧ OwnI w' w.heap.size v (normz x.kind (x.pins.map (nmOf names))) ∧ Below w.heap.size w w' := by
  have HN := Lib.hid hn
  have HX := Lib.hid h
  have HCD := Lib.hid (fun w h => copyDevice_any x.kind x.wd x.len sx x.pins w h (by omega))
  have HXN := Lib.hid hxn
  have HXP := Lib.hid hxp
  have HNM := Lib.hid (fun sv w h => implNorm_any x.kind x.wd x.len sv (x.pins.map (nmOf names)) w h (by simp; omega))
  generalize normz x.kind (x.pins.map (nmOf names)) = NZ at *
  obtain ⟨ax, cx, rfl⟩ := h.len
  obtain ⟨an, cn, rfl⟩ := hn.len
  clear h hn hxn hxp
  go_enter Tryz.func67, Tryz.ntmps67
  go_wp2_with fail
  refine (HCD.out _ (HX.out.by blwT)).mono ?_
  rintro e w1 ⟨v1, rfl, hOI, hb1⟩
  obtain ⟨fb, hf1, hf2, hOR⟩ := hOI.pin HXN.out
  obtain ⟨gb, capb, csb, rfl, hgb, hcb, hmb, kB0, HIC0⟩ := hOR.cells HXN.out
  have hgf : gb = fb := by omega
  subst hgf
  have kZ : Blk w1 (w.heap.size + 1) #[.int .i64 0, .slice none 0 0, .int .i64 0, .int .i64 0] 62 := blkT
  have hb : Below w.heap.size w w1 := blwT
  have HICH := Lib.hid HIC0
  have hbs := hb1.size
  simp only [World.size_alloc] at hbs hf1
  have lZ := kZ.lt
  obtain ⟨Q, hQ⟩ : ∃ Q, w1.heap.size = Q := ⟨_, rfl⟩
  have HQ := Lib.hid hQ
  have hQl : w.heap.size + 1 < Q := by omega
  have hgQ : gb < Q := by omega
  clear hb1 hOI hOR HIC0 hQ
  go_wp2
  rw [HQ.out]
  have hIC : ICs csb (renTo names x.pins 0) := by rw [renTo_zero]; exact HICH.out
  obtain ⟨wA, hwA⟩ : ∃ wA, wA = w1.alloc (.cells #[.int .i64 x.kind, .slice (some ⟨gb, 0, none⟩) x.pins.length capb, .int .i64 x.wd, .int .i64 x.len] 62) := ⟨_, rfl⟩
  have kD : Blk wA Q #[.int .i64 x.kind, .slice (some ⟨gb, 0, none⟩) x.pins.length capb, .int .i64 x.wd, .int .i64 x.len] 62 := by rw [hwA]; exact Blk.new _ HQ.out.symm
  have kBA : Blk wA gb csb 2 := by rw [hwA]; exact kB0.past _
  have kZA : Blk wA (w.heap.size + 1) #[.int .i64 0, .slice none 0 0, .int .i64 0, .int .i64 0] 62 := by rw [hwA]; exact kZ.past _
  have hbA : Below w.heap.size w wA := by rw [hwA]; exact below_al hb _
  rw [← hwA]
  clear hwA HICH kB0 kZ hb lZ hbs
  go_loopw [13] (fun i wr2 => ∃ m : Nat, m ≤ x.pins.length ∧ i = .int .i64 m ∧ Blk wr2 Q #[.int .i64 x.kind, .slice (some ⟨gb, 0, none⟩) x.pins.length capb, .int .i64 x.wd, .int .i64 x.len] 62 ∧ (∃ cs, Blk wr2 gb cs 2 ∧ Hid (ICs cs (renTo names x.pins m))) ∧ Within gb (gb + 1) wA wr2) (fun i _ => x.pins.length - (intOf i).toNat)
  case atStart => exact ⟨0, Nat.zero_le _, rfl, kD, ⟨csb, kBA, Lib.hid hIC⟩, Within.refl _ _ _⟩
  case round =>
    clear kD kBA hIC
    obtain ⟨m, hm, rfl, kD, ⟨cs, kB, HIC⟩, hW2⟩ := hrel
    have cD := kD.cell
    by_cases hlt2 : m < x.pins.length
    · obtain ⟨z, hz⟩ : ∃ z, x.pins[m]? = some z := ⟨x.pins[m], List.getElem?_eq_getElem hlt2⟩
      obtain ⟨hz0, hz1⟩ := HXP.out z (List.mem_of_getElem? hz)
      have cB := kB.cell
      have fB := kB.free
      have cz := HIC.out m z (renTo_get names x.pins m z hz)
      have hNw := HN.out.by (hW2.below hbA (by omega))
      obtain ⟨q, rfl⟩ : ∃ q : Nat, z = q := ⟨z.toNat, by omega⟩
      rcases hNw with ⟨_, _, _, h2⟩ | ⟨nb, noff, ncap, hen, _, _, hcn⟩
      · rw [h2] at hz1; simp at hz1; omega
      obtain ⟨rfl, rfl⟩ : an = some ⟨nb, noff, none⟩ ∧ cn = ncap := by simpa using hen
      have hq : q < names.length := by omega
      have cn := hcn q names[q] (List.getElem?_eq_getElem hq)
      have hnm : nmOf names (q : Int) = names[q] := by simp [nmOf, hq]
      have HZ := Lib.hid hz
      have HNMq := Lib.hid hnm
      generalize names[q] = y at *
      have j1 : (0 : Int) ≤ (m : Int) := by omega
      have j2 : (m : Int) < (x.pins.length : Int) := by omega
      clear hz hnm hen hcn hq
      go_wp2_with fail
      go_region
      all_goals go_wp2_with fail
      exact ⟨⟨m + 1, by omega, by go_num, (kD.apart gb m _ (by omega)).drew, ⟨cs.setIfInBounds m (.int .i64 y), (kB.set m _).drew, Lib.hid (by rw [← renTo_step names x.pins m q HZ.out, HNMq.out]; exact HIC.out.set m y)⟩, (hW2.set gb m _ (Nat.le_refl _) (by omega)).drewN 1⟩, by simp [intOf]; omega⟩
    · obtain rfl : m = x.pins.length := by omega
      have hIC1 : ICs cs (x.pins.map (nmOf names)) := by have := HIC.out; rwa [renTo_all] at this
      have hOR0 := hIC1.own kB (by rw [List.length_map]; exact hcb) hmb
      rw [List.length_map] at hOR0
      have kZ2 := hW2.blk kZA (by omega)
      have hb2 := hW2.below hbA (by omega)
      have HOS := Lib.hid hOR0.sl
      have hZg := kZ2.lt
      clear hIC1 hOR0 HIC
      go_wp2_with fail
      refine (HNM.out _ _ HOS.out).mono ?_
      rintro e w3 ⟨v3, rfl, hO3, hb3⟩
      replace kZ2 := Blk.by hb3 kZ2
      have hb4 := below_on hb3 hb2
      obtain ⟨a3, c3, rfl⟩ := hO3.len
      have HO3 := Lib.hid hO3
      have qZ := kZ2.cell
      have fZ := kZ2.free
      have lZ := kZ2.lt
      have sW := hW2.size
      clear hO3 cD
      go_wp2
      refine bodyPost_ret (v := .agg #[.int .i64 x.kind, .slice a3 NZ.length c3, .int .i64 x.wd, .int .i64 x.len]) (by simp [results, Tryz.results67, go_sem, *]) rfl ⟨_, rfl, ?_, blwT⟩
      refine OwnI.low (lo := wr.heap.size) ?_ (by omega)
      repeat (first | (with_reducible exact HO3.out) | ((with_reducible refine OwnI.apart ?_ _ _ _ ?_); rotate_left; focus omega))
set_option maxRecDepth 100000 in
set_option maxHeartbeats 2000000 in
theorem same_any (x y : Dv) (names : List Int) (sx sy sn : Value) (w : World) (h : IntSl w sx x.pins) (h' : IntSl w sy y.pins) (hn : IntSl w sn names) (hxl : x.pins.length ≤ 3) (hxn : x.pins ≠ []) (hxp : ∀ z ∈ x.pins, 0 ≤ z ∧ z < names.length) (hyl : y.pins.length ≤ 3) :
    Calls Tryz.prog 70 #[.agg #[.int .i64 x.kind, sx, .int .i64 x.wd, .int .i64 x.len], .agg #[.int .i64 y.kind, sy, .int .i64 y.wd, .int .i64 y.len], sn] w fun e w' => e = .returned (.bool (isoD names x y)) ∧ Below w.heap.size w w' := by
  have HB := Lib.hid (show isoD names x y = decide (devcmp x.kind y.kind (normz x.kind (x.pins.map (nmOf names))) (normz y.kind y.pins) x.wd y.wd x.len y.len = 0) from rfl)
  have HX := Lib.hid h
  have HY := Lib.hid h'
  have HN := Lib.hid hn
  have HM := Lib.hid (fun w h h' => moved_any x names sx sn w h h' hxl hxn hxp)
  have HN1 := Lib.hid (fun sv w h => specNorm_any x.kind x.wd x.len sv (x.pins.map (nmOf names)) w h (by simp; omega))
  have HN2 := Lib.hid (fun w h => specNorm_any y.kind y.wd y.len sy y.pins w h (by omega))
  have HC := Lib.hid (fun s1 s2 w h h' => specCompareDevices_any x.kind x.wd x.len y.kind y.wd y.len s1 s2 (normz x.kind (x.pins.map (nmOf names))) (normz y.kind y.pins) w h h')
  have hml : (x.pins.map (nmOf names)).length = x.pins.length := List.length_map _
  generalize x.pins.map (nmOf names) = mx at *
  generalize normz x.kind mx = nx at *
  generalize normz y.kind y.pins = ny at *
  generalize devcmp x.kind y.kind nx ny x.wd y.wd x.len y.len = r at *
  generalize isoD names x y = q at *
  obtain ⟨k1, xs, d1, l1⟩ := x
  obtain ⟨k2, ys, d2, l2⟩ := y
  dsimp only at *
  obtain ⟨a, c, rfl⟩ := h.len
  obtain ⟨a', c', rfl⟩ := h'.len
  obtain ⟨an, cn, rfl⟩ := hn.len
  clear h h' hn hml hxn hxp
  go_enter Tryz.func70, Tryz.ntmps70
  go_wp2_with fail
  go_region_held3 ((fun w' => (Blk w' (w.heap.size) #[.int .i64 k1, .slice a xs.length c, .int .i64 d1, .int .i64 l1] 62 ∧ ∀ o, w'.cell? ⟨w.heap.size, o, none⟩ = (#[.int .i64 k1, .slice a xs.length c, .int .i64 d1, .int .i64 l1] : Array Value)[o]?) ∧ (Blk w' (w.heap.size + 1) #[.int .i64 k2, .slice a' ys.length c', .int .i64 d2, .int .i64 l2] 62 ∧ ∀ o, w'.cell? ⟨w.heap.size + 1, o, none⟩ = (#[.int .i64 k2, .slice a' ys.length c', .int .i64 d2, .int .i64 l2] : Array Value)[o]?) ∧ Below w.heap.size w w')) (((try (obtain ⟨⟨hS0, _⟩, ⟨hS1, _⟩, hSB⟩ := hHeld)); refine ⟨Blk.both ?_, Blk.both ?_, ?_⟩ <;> first | ((repeat (first | (with_reducible assumption) | (with_reducible refine Blk.drewN ?_ _) | (with_reducible refine Blk.drew ?_) | ((with_reducible refine Blk.new _ ?_); focus (first | omega | (simp; done) | (simp; omega))) | (with_reducible refine Blk.past ?_ _) | ((with_reducible refine Blk.apart ?_ _ _ _ ?_); rotate_left; focus (first | omega | (simp; done) | (simp; omega))) | (with_reducible refine Blk.by (by assumption) ?_))); done) | ((repeat (first | (with_reducible exact Below.refl _ _) | (with_reducible refine below_drewN ?_ _) | (with_reducible refine Below.drew ?_) | (with_reducible refine below_al ?_ _) | (with_reducible refine below_on (by assumption) ?_) | ((with_reducible refine Below.setCell ?_ ?_ _); rotate_left; focus (first | omega | (simp; done) | (simp; omega))) | (with_reducible assumption))); done)))
    (first | (go_at_call 120; refine (HM.out _ (HX.out.by blwT) (HN.out.by blwT)).mono ?_; rintro e w1 ⟨v1, rfl, hO1, hb1⟩; have HO1 := Lib.hid hO1; obtain ⟨a1, c1, rfl⟩ := hO1.len; clear hO1) | (go_at_call_of 60 (Value.slice a1 mx.length c1); refine (HN1.out _ _ HO1.out).mono ?_; rintro e w2 ⟨v2, rfl, hO2, hb2⟩; have HO2 := Lib.hid hO2.sl; obtain ⟨a2, c2, rfl⟩ := hO2.len; clear hO2) | (go_at_call_of 60 (Value.slice a' ys.length c'); refine (HN2.out _ (HY.out.by blwT)).mono ?_; rintro e w3 ⟨v3, rfl, hO3, hb3⟩; have HO3 := Lib.hid hO3.sl; obtain ⟨a3, c3, rfl⟩ := hO3.len; clear hO3) | (go_at_call 59; refine (HC.out _ _ _ (HO2.out.by hb3) HO3.out).mono ?_; rintro e w4 ⟨rfl, hb4⟩))
  go_wp2
  go_ret
  exact ⟨ret_bool (by rw [HB.out, Bool.eq_iff_iff]; simp), blwT⟩
theorem Bld.lit0 {w : World} {g lo hi : Nat} (h : Blk w g #[] 62) (hlo : lo ≤ g) (hhi : g < hi) (hs : hi ≤ w.heap.size) : Bld w lo hi (.slice (some ⟨g, 0, none⟩) 0 0) [] :=
  ⟨hs, [], fun _ => 0, ⟨rfl, .inr ⟨g, 0, #[], rfl, hlo, h, Nat.le_refl _, by unfold maxLen; omega, rfl, rfl⟩⟩, rfl, (fun g' hg' => by
    have e : g = g' := by injection hg'
    omega), by intro i x s h; simp at h, by intro i j h; simp at h⟩
theorem list_pushDn {ops : Array Oper} {rest : List Oper} {o : Oper} {a : Act} {w : World} {Q : Exit → Act → World → Prop} (hgd : o.guard = none) (s x : Operand)
    (ho : o.op = .call { callee := .builtin .append, args := #[s, x], argTypes := #[32, 32] })
    (lo hi : Nat) (v : Value) (ds : List Dv) (N : Nat) (hN : ds.length = N) (hs : a.eval s = v) (hB : Bld w lo hi v ds) (nb : Nat) (d : Dv) (pv : Value) (fb : Nat) (hx : a.eval x = .slice (some ⟨nb, 0, none⟩) 1 1)
    (hnb : Blk w nb #[.int .i64 d.kind, pv, .int .i64 d.wd, .int .i64 d.len] 62) (hpv : OwnR w fb (fb + 1) pv d.pins) (hlo : lo ≤ hi) (hhi : hi ≤ fb) (hfb : fb < w.heap.size) (hn : N ≤ 1000)
    (hK : ∀ a' c' w', Bld w' lo w'.heap.size (.slice a' (N + 1) c') (ds ++ [d]) → Within lo hi w w' → wpList Tryz.prog ops Q rest (a.put o.dst (.slice a' (N + 1) c')) w') : wpList Tryz.prog ops Q (o :: rest) a w := by
  subst hN
  exact list_push hgd s x ho lo hi v ds hs hB nb d pv fb hx hnb hpv hlo hhi hfb hn hK
theorem ren_in {names pins : List Int} {kind wd len : Int} (hl : 2 ≤ pins.length) : ∃ Z, normz kind (pins.map (nmOf names)) = Z ∧ Z ≠ [] ∧ nzD (renD names ⟨kind, pins, wd, len⟩) = ⟨kind, Z, wd, len⟩ :=
  ⟨_, rfl, (fun e => by have := length_normz kind (pins.map (nmOf names)); rw [e] at this; simp at this; omega), rfl⟩
set_option maxRecDepth 100000 in
set_option maxHeartbeats 4000000 in
theorem l30Equal_any (xs ys : List Dv) (s1 s2 : Value) (w : World) (h : DvSl w s1 xs) (h' : DvSl w s2 ys) (hl : xs.length ≤ 1000) (hl' : ys.length ≤ 1000) :
    Calls Tryz.prog 144 #[s1, s2] w fun e w' => e = .returned (.bool (decide (xs = ys))) ∧ Below w.heap.size w w' := by
  have HX := Lib.hid h
  have HY := Lib.hid h'
  obtain ⟨a1, c1, rfl⟩ := h.sized
  obtain ⟨a2, c2, rfl⟩ := h'.sized
  have HCP := Lib.hid (fun (x y : Dv) s1 s2 w h h' => specCompareDevices_any x.kind x.wd x.len y.kind y.wd y.len s1 s2 x.pins y.pins w h h')
  have HZ := Lib.hid (fun (x y : Dv) => (show devcmp x.kind y.kind x.pins y.pins x.wd y.wd x.len y.len = dcf x y from rfl))
  clear h h'
  by_cases hxy : xs.length = ys.length
  · have HEQ := Lib.hid (show (∀ k, k < xs.length → xs[k]? = ys[k]?) → xs = ys from fun h => List.ext_getElem? (fun i => by
      by_cases hi : i < xs.length
      · exact h i hi
      · rw [show xs[i]? = none by simp; omega, show ys[i]? = none by simp; omega]))
    rw [← hxy] at HY ⊢
    have HL := Lib.hid hxy
    obtain ⟨n, hn⟩ : ∃ n, xs.length = n := ⟨_, rfl⟩
    rw [hn] at HX HY HEQ hl ⊢
    have HN := Lib.hid hn
    clear hxy hn hl'
    go_enter Tryz.func144, Tryz.ntmps144
    go_wp2
    go_loopw [5] (fun i wr => ∃ k : Nat, k ≤ n ∧ i = .int .i64 k ∧ Hid (∀ j, j < k → xs[j]? = ys[j]?) ∧ Below w.heap.size w wr) (fun i _ => n - (intOf i).toNat)
    case atStart => exact ⟨0, Nat.zero_le _, rfl, Lib.hid (by intro j h; omega), blwT⟩
    case round =>
      obtain ⟨k, hk, rfl, HI, hb⟩ := hrel
      by_cases hlt : k < n
      · have i1 : (k : Int) < (n : Int) := by omega
        have i2 : decide (k < n) = true := decide_eq_true hlt
        obtain ⟨x, hx⟩ : ∃ x, xs[k]? = some x := ⟨_, List.getElem?_eq_getElem (by rw [HN.out]; exact hlt)⟩
        obtain ⟨y, hy⟩ : ∃ y, ys[k]? = some y := ⟨_, List.getElem?_eq_getElem (by rw [← HL.out, HN.out]; exact hlt)⟩
        rcases HX.out with ⟨_, _, _, h2⟩ | ⟨xb, xo, xc, he, _, _, h4⟩
        · rw [h2] at hx; simp at hx
        obtain ⟨rfl, rfl⟩ : a1 = some ⟨xb, xo, none⟩ ∧ c1 = xc := by
          simp only [Value.slice.injEq] at he
          exact ⟨he.1, he.2.2⟩
        rcases HY.out with ⟨_, _, _, h2⟩ | ⟨yb, yo, yc, he', _, _, h4'⟩
        · rw [h2] at hy; simp at hy
        obtain ⟨rfl, rfl⟩ : a2 = some ⟨yb, yo, none⟩ ∧ c2 = yc := by
          simp only [Value.slice.injEq] at he'
          exact ⟨he'.1, he'.2.2⟩
        obtain ⟨sx, x1, x2, x3, x4, x5⟩ := (h4 k x hx).by hb
        obtain ⟨sy, y1, y2, y3, y4, y5⟩ := (h4' k y hy).by hb
        obtain ⟨px, cx, rfl⟩ := x5.len
        obtain ⟨py, cy, rfl⟩ := y5.len
        have HXP := Lib.hid x5
        have HYP := Lib.hid y5
        have HXK := Lib.hid hx
        have HYK := Lib.hid hy
        obtain ⟨R, hR⟩ : ∃ R, dcf x y = R := ⟨_, rfl⟩
        have hC := HCP.out x y
        rw [HZ.out x y, hR] at hC
        have HC := Lib.hid hC
        have HDC := Lib.hid hR
        clear hC hR
        clear hx hy x5 y5 he he' h4 h4' HCP HZ
        go_upto_region 6 with fail
        have HSB : ∀ w1 : World, Below wr.heap.size wr w1 → (fun w' => w'.cell? ⟨xb, xo + k * 4, none⟩ = some (.int .i64 x.kind) ∧ w'.cell? ⟨xb, xo + k * 4 + 1, none⟩ = some (.slice px x.pins.length cx) ∧ w'.cell? ⟨xb, xo + k * 4 + 2, none⟩ = some (.int .i64 x.wd) ∧ w'.cell? ⟨xb, xo + k * 4 + 3, none⟩ = some (.int .i64 x.len) ∧ w'.cell? ⟨yb, yo + k * 4, none⟩ = some (.int .i64 y.kind) ∧ w'.cell? ⟨yb, yo + k * 4 + 1, none⟩ = some (.slice py y.pins.length cy) ∧ w'.cell? ⟨yb, yo + k * 4 + 2, none⟩ = some (.int .i64 y.wd) ∧ w'.cell? ⟨yb, yo + k * 4 + 3, none⟩ = some (.int .i64 y.len) ∧ Below wr.heap.size wr w') w1 := fun w1 h => ⟨cell_by' h x1, cell_by' h x2, cell_by' h x3, cell_by' h x4, cell_by' h y1, cell_by' h y2, cell_by' h y3, cell_by' h y4, h⟩
        go_region_held3 (fun w' => w'.cell? ⟨xb, xo + k * 4, none⟩ = some (.int .i64 x.kind) ∧ w'.cell? ⟨xb, xo + k * 4 + 1, none⟩ = some (.slice px x.pins.length cx) ∧ w'.cell? ⟨xb, xo + k * 4 + 2, none⟩ = some (.int .i64 x.wd) ∧ w'.cell? ⟨xb, xo + k * 4 + 3, none⟩ = some (.int .i64 x.len) ∧ w'.cell? ⟨yb, yo + k * 4, none⟩ = some (.int .i64 y.kind) ∧ w'.cell? ⟨yb, yo + k * 4 + 1, none⟩ = some (.slice py y.pins.length cy) ∧ w'.cell? ⟨yb, yo + k * 4 + 2, none⟩ = some (.int .i64 y.wd) ∧ w'.cell? ⟨yb, yo + k * 4 + 3, none⟩ = some (.int .i64 y.len) ∧ Below wr.heap.size wr w')
          (((try (obtain ⟨_, _, _, _, _, _, _, _, hSB⟩ := hHeld)); refine HSB _ ?_; ((repeat (first | (with_reducible exact Below.refl _ _) | (with_reducible refine below_drewN ?_ _) | (with_reducible refine Below.drew ?_) | (with_reducible refine below_al ?_ _) | (with_reducible refine below_on (by assumption) ?_) | ((with_reducible refine Below.setCell ?_ ?_ _); rotate_left; focus (first | omega | (simp; done) | (simp; omega))) | (with_reducible assumption))); done)))
          (first | (go_at_call 59; refine (HC.out _ _ _ (HXP.out.by blwT) (HYP.out.by blwT)).mono ?_; rintro e w1 ⟨rfl, hb1⟩))
        all_goals
          have hb2 : Below w.heap.size w w1 := below_on hb1 (below_on (below_of_drewN wr 1) hb)
          by_cases hr0 : R = 0
          · subst hr0
            have hxy : x = y := dcf_zero.1 HDC.out
            have HI2 := Lib.hid (show ∀ j, j < k + 1 → xs[j]? = ys[j]? from fun j hj => by
              by_cases e : j = k
              · subst e; rw [HXK.out, HYK.out, hxy]
              · exact HI.out j (by omega))
            clear hxy x1 x2 x3 x4 y1 y2 y3 y4
            go_wp2
            exact ⟨⟨k + 1, by omega, by go_num, HI2, hb2⟩, by simp [intOf]; omega⟩
          · have r1 : (R == 0) = false := by simpa using hr0
            have r2 : (R != 0) = true := by simpa using hr0
            have hne : Hid (¬ xs = ys) := Lib.hid (fun e => hr0 (by
              have h1 := HXK.out
              rw [e, HYK.out] at h1
              rw [← HDC.out, dcf_zero.2 (Option.some.inj h1).symm]))
            clear hr0 x1 x2 x3 x4 y1 y2 y3 y4
            go_wp2
            go_ret
            exact ⟨ret_bool (decide_eq_false hne.out).symm, hb2⟩
      · obtain rfl : n = k := by omega
        have i1 : ¬ (n : Int) < (n : Int) := by omega
        have hr := Lib.hid (HEQ.out (fun j hj => HI.out j hj))
        go_wp2
        go_ret
        exact ⟨ret_bool (decide_eq_true hr.out).symm, blwT⟩
  · have hne : ¬ xs = ys := fun e => hxy (by rw [e])
    rw [decide_eq_false hne]
    have e1 : ((xs.length : Int) != (ys.length : Int)) = true := by simp; omega
    have e2 : ((xs.length : Int) == (ys.length : Int)) = false := by simp; omega
    clear hxy hne HX HY
    generalize xs.length = n1 at *
    generalize ys.length = n2 at *
    go_enter Tryz.func144, Tryz.ntmps144
    go_wp2
    go_ret
    exact ⟨rfl, blwT⟩
set_option maxRecDepth 100000 in
set_option maxHeartbeats 8000000 in
theorem l30Inner_any (x : Nl) (names : List Int) (v sn : Value) (w : World) (h : NlV w v x) (hn : IntSl w sn names) (hl : x.ds.length ≤ 24) (hd : ∀ d ∈ x.ds, 2 ≤ d.pins.length ∧ d.pins.length ≤ 3 ∧ ∀ p ∈ d.pins, 0 ≤ p ∧ p < (names.length : Int)) :
    Calls Tryz.prog 145 #[v, sn] w fun e w' => ∃ v', e = .returned v' ∧ OwnDs w' w.heap.size w'.heap.size v' (innerS x.ds names) ∧ Below w.heap.size w w' := by
  obtain ⟨s1, s2, rfl, hds, hps⟩ := h
  obtain ⟨nets, ds, ps⟩ := x
  dsimp only at *
  have HD := Lib.hid hds
  have HN := Lib.hid hn
  have HPN := Lib.hid hd
  obtain ⟨a1, c1, rfl⟩ := hds.sized
  obtain ⟨a2, c2, rfl⟩ := hps.sized
  obtain ⟨an, cn, rfl⟩ := hn.len
  obtain ⟨L2, hL2⟩ : ∃ L, ps.length = L := ⟨_, rfl⟩
  obtain ⟨L, hL⟩ : ∃ L, ds.length = L := ⟨_, rfl⟩
  rw [hL2]
  rw [hL] at HD hl ⊢
  have HL := Lib.hid hL
  have HSR := Lib.hid (fun ds sv w h hn hp => specSorted_any ds sv w h hn hp)
  have HMV := Lib.hid (fun d sx w h h' a b c => moved_any d names sx (.slice an names.length cn) w h h' a b c)
  have HNM := Lib.hid (fun k wd ln sv zs w h hn => specNorm_any k wd ln sv zs w h hn)
  have HST := Lib.hid (fun k d (h : ds[k]? = some d) => innTo_step names h)
  have HLE := Lib.hid (fun k => innTo_len ds names k)
  have HAL := Lib.hid (show srtD (innTo ds names L) = innerS ds names from by rw [← hL]; exact innTo_all ds names)
  have HIS := Lib.hid (fun (pins : List Int) (j : Nat) (p : Int) (h : pins[j]? = some p) => inTo_step names h)
  clear hds hps hn hd hL hL2
  go_enter Tryz.func145, Tryz.ntmps145
  go_wp2
  go_loopw [5, 6] (fun ov i wr => ∃ (k hi m c : Nat) (ga : Option Addr), k ≤ L ∧ i = .int .i64 k ∧ ov = .slice ga m c ∧ m ≤ 24 ∧ Hid (Bld wr (w.heap.size + 1) hi (.slice ga m c) (innTo ds names k)) ∧ w.heap.size + 1 ≤ hi ∧ hi ≤ wr.heap.size ∧ Blk wr w.heap.size #[.int .i64 nets, .slice a1 L c1, .slice a2 L2 c2] 35 ∧ Below w.heap.size w wr) (fun _ i _ => L - (intOf i).toNat)
  case atStart =>
    have hB : Blk ((w.alloc (.cells #[.int .i64 nets, .slice a1 L c1, .slice a2 L2 c2] 35)).alloc (.cells #[] 62)) (w.heap.size + 1) #[] 62 := Blk.new _ (by simp)
    exact ⟨0, w.heap.size + 2, 0, 0, _, Nat.zero_le _, rfl, rfl, by omega, Lib.hid (Bld.lit0 hB (by omega) (by omega) (by simp)), by omega, by simp, blkT, blwT⟩
  case round =>
    obtain ⟨k, hi, m, c, ga, hk, rfl, rfl, hm, HB, hhi, hhs, kA, hb⟩ := hrel
    have qA := kA.cell
    have lA := kA.lt
    by_cases hlt : k < L
    · obtain ⟨d, hd⟩ : ∃ d, ds[k]? = some d := ⟨_, List.getElem?_eq_getElem (by rw [HL.out]; exact hlt)⟩
      obtain ⟨hp2, hp3, hpr⟩ := HPN.out d (List.mem_of_getElem? hd)
      have hml : (innTo ds names k).length = m := by
        obtain ⟨_, _, e⟩ := HB.out.sized
        simp only [Value.slice.injEq] at e
        exact e.2.1.symm
      have hmk : m ≤ k := by rw [← hml]; exact HLE.out k
      have HST1 := Lib.hid (HST.out k d hd)
      rcases HD.out with ⟨_, _, _, h2⟩ | ⟨db, dof, dc, he, _, _, h4⟩
      · rw [h2] at hd; simp at hd
      obtain ⟨rfl, rfl⟩ : a1 = some ⟨db, dof, none⟩ ∧ c1 = dc := by
        simp only [Value.slice.injEq] at he
        exact ⟨he.1, he.2.2⟩
      obtain ⟨sx, x1, x2, x3, x4, x5⟩ := (h4 k d hd).by hb
      obtain ⟨px, cx, rfl⟩ := x5.len
      obtain ⟨kd, pins, wd, ln⟩ := d
      dsimp only at *
      have HXP := Lib.hid x5
      have HPR := Lib.hid hpr
      have HML := Lib.hid hml
      obtain ⟨P, hP⟩ : ∃ P, pins.length = P := ⟨_, rfl⟩
      rw [hP] at x2 HXP hp2 hp3
      have HPL := Lib.hid hP
      have HIA := Lib.hid (show inTo names pins P = inD names ⟨kd, pins, wd, ln⟩ from by rw [← hP]; exact inTo_all names ⟨kd, pins, wd, ln⟩)
      have i1 : (k : Int) < (L : Int) := by omega
      have i2 : decide (k < L) = true := decide_eq_true hlt
      clear hd he h4 x5 hpr hml hP
      go_wp2
      obtain ⟨wo, rfl⟩ : ∃ z : World, z = wr := ⟨_, rfl⟩
      go_loopw [7, 8] (fun b j wy => ∃ q : Nat, q ≤ P ∧ j = .int .i64 q ∧ b = .bool (inTo names pins q) ∧ wy = wo) (fun _ j _ => P - (intOf j).toNat)
      case atStart => exact ⟨0, Nat.zero_le _, rfl, rfl, rfl⟩
      case round =>
        obtain ⟨q, hq, rfl, rfl, rfl⟩ := hrel
        by_cases hql : q < P
        · have j1 : (q : Int) < (P : Int) := by omega
          have j2 : decide (q < P) = true := decide_eq_true hql
          obtain ⟨pz, hpz⟩ : ∃ pz, pins[q]? = some pz := ⟨_, List.getElem?_eq_getElem (by rw [HPL.out]; exact hql)⟩
          have HI1 := Lib.hid (HIS.out pins q pz hpz)
          obtain ⟨pn, rfl⟩ : ∃ n : Nat, pz = n := ⟨pz.toNat, by have := HPR.out pz (List.mem_of_getElem? hpz); omega⟩
          have hpn := (HPR.out _ (List.mem_of_getElem? hpz)).2
          cases hin : inTo names pins q with
          | true =>
            rw [hin, Bool.true_and] at HI1
            obtain ⟨pb, po, pc, hep, _, c5⟩ := HXP.out.nm (by rw [HPL.out]; omega)
            obtain ⟨rfl, rfl⟩ : px = some ⟨pb, po, none⟩ ∧ cx = pc := by
              simp only [Value.slice.injEq] at hep
              exact ⟨hep.1, hep.2.2⟩
            have cp := c5 q (by rw [HPL.out]; exact hql)
            have e5 : nmOf pins (q : Int) = pn := by unfold nmOf; rw [Int.toNat_natCast, List.getD_eq_getElem?_getD, hpz]; rfl
            rw [e5] at cp
            obtain ⟨nb, no, nc, hen, _, c6⟩ := (HN.out.by hb).nm (by omega)
            obtain ⟨rfl, rfl⟩ : an = some ⟨nb, no, none⟩ ∧ cn = nc := by
              simp only [Value.slice.injEq] at hen
              exact ⟨hen.1, hen.2.2⟩
            have cz := c6 pn (by omega)
            obtain ⟨z, hz⟩ : ∃ z, nmOf names (pn : Int) = z := ⟨_, rfl⟩
            rw [hz] at cz HI1
            have j3 : decide (pn < names.length) = true := decide_eq_true (by omega)
            clear c5 c6 hep hen hpz e5 hz
            generalize names.length = NL at *
            by_cases hz0 : 0 ≤ z
            · have j4 : decide (0 ≤ z) = true := decide_eq_true hz0
              rw [j4] at HI1
              go_wp2
              exact ⟨⟨q + 1, by omega, by go_num, by rw [HI1.out], (by first | trivial | rfl)⟩, by simp [intOf]; omega⟩
            · have j4 : decide (0 ≤ z) = false := decide_eq_false hz0
              rw [j4] at HI1
              go_wp2
              exact ⟨⟨q + 1, by omega, by go_num, by rw [HI1.out], (by first | trivial | rfl)⟩, by simp [intOf]; omega⟩
          | false =>
            rw [hin, Bool.false_and] at HI1
            clear hpz
            go_wp2
            exact ⟨⟨q + 1, by omega, by go_num, by rw [HI1.out], (by first | trivial | rfl)⟩, by simp [intOf]; omega⟩
        · obtain rfl : P = q := by omega
          have j1 : ¬ (P : Int) < (P : Int) := by omega
          rw [HIA.out]
          cases hin : inD names ⟨kd, pins, wd, ln⟩ with
          | true =>
            rw [hin, if_pos rfl] at HST1
            obtain ⟨Z, hZ, hZ0, hZd⟩ := ren_in (names := names) (kind := kd) (wd := wd) (len := ln) (pins := pins) (by rw [HPL.out]; omega)
            rw [hZd] at HST1
            clear hZd
            go_wp2_with fail
            refine (HMV.out ⟨kd, pins, wd, ln⟩ _ _ HXP.out (HN.out.by hb) (by dsimp only; rw [HPL.out]; omega) (by dsimp only; intro e; have h := HPL.out; rw [e] at h; simp at h; omega) (by dsimp only; intro p hp; have := HPR.out p hp; omega)).mono ?_
            rintro e w1 ⟨v1, rfl, hI1, hb1⟩
            obtain ⟨p1, cc1, rfl⟩ := hI1.len
            dsimp only at hI1 ⊢
            rw [List.length_map, HPL.out] at hI1 ⊢
            have HI1 := Lib.hid hI1
            have hb1w := below_on hb1 hb
            clear hI1
            go_wp2_with fail
            refine (HNM.out kd wd ln _ (pins.map (nmOf names)) _ HI1.out (by rw [List.length_map, HPL.out]; omega)).mono ?_
            rintro e w2 ⟨v2, rfl, hO2, hb2⟩
            rw [hZ] at hO2
            obtain ⟨fb, hf1, hf2, hOR⟩ := hO2.pin hZ0
            obtain ⟨p2, cc2, rfl⟩ := hOR.sl.len
            have HOR := Lib.hid hOR
            have hs1 := hb1.size
            have hs2 := hb2.size
            have HB2 := Lib.hid ((HB.out.by hb1).by hb2)
            have kA2 := Blk.by hb2 (Blk.by hb1 kA)
            have hb2w := below_on hb2 hb1w
            have hsw := hb.size
            clear hO2 hOR hZ hb1 hb2 HI1 qA lA x1 x2 x3 x4
            go_wp2_with (refine list_pushDn (by rfl) _ _ (by rfl) (w.heap.size + 1) hi (.slice ga m c) (innTo ds names k) m HML.out (by rfl) (HB2.out.by blwT) w2.heap.size ⟨kd, Z, wd, ln⟩ (.slice p2 Z.length cc2) fb (by rfl) (Blk.new _ rfl) (OwnR.by ((Below.refl _ w2).alloc (Nat.le_refl _) _) HOR.out) (by omega) (by omega) (by simp; omega) (by omega) ?_; intro a9 c9 w9 hB9 hw9; have HB9 := Lib.hid hB9; clear hB9)
            have hs9 := hw9.size
            have hs9' : w2.heap.size ≤ w9.heap.size := by simp at hs9; omega
            exact ⟨⟨k + 1, w9.heap.size, m + 1, c9, a9, by omega, by go_num, rfl, by omega, Lib.hid (by rw [HST1.out]; exact HB9.out), by omega, by omega, hw9.blk (kA2.past _) (by omega), hw9.below (below_on ((Below.refl _ w2).alloc (Nat.le_refl _) _) hb2w) (by omega)⟩, by simp [intOf]; omega⟩
          | false =>
            rw [hin, if_neg (by simp), List.append_nil] at HST1
            go_wp2
            exact ⟨⟨k + 1, hi, m, c, ga, by omega, by go_num, rfl, by omega, Lib.hid (by rw [HST1.out]; exact HB.out), by omega, by omega, kA, hb⟩, by simp [intOf]; omega⟩
    · obtain rfl : L = k := by omega
      have i1 : ¬ (L : Int) < (L : Int) := by omega
      have hsl := HB.out.own.sl
      go_wp2_with fail
      refine (HSR.out _ _ _ hsl (by have := HLE.out L; omega) (fun d hd => ?_)).mono ?_
      · unfold innTo at hd
        obtain ⟨d0, h0, rfl⟩ := List.mem_map.1 hd
        have hm0 := (List.mem_filter.1 h0).1
        have := HPN.out d0 (List.mem_of_mem_take hm0)
        have hln : (nzD (renD names d0)).pins.length = d0.pins.length := by
          show (normz d0.kind (d0.pins.map (nmOf names))).length = _
          rw [length_normz, List.length_map]
        exact ⟨by omega, fun e => by rw [e] at hln; simp at hln; omega⟩
      rintro e w1 ⟨v1, rfl, hO, hb1⟩
      rw [HAL.out] at hO
      have hsz := hb.size
      go_wp2
      go_ret
      exact ⟨v1, rfl, hO.wide (by omega) (Nat.le_refl _), below_on hb1 hb⟩
theorem isoD_eq (z : List Int) (d e : Dv) : isoD z d e = decide (nzD (renD z d) = nzD e) := by
  unfold isoD
  rw [show devcmp d.kind e.kind (normz d.kind (d.pins.map (nmOf z))) (normz e.kind e.pins) d.wd e.wd d.len e.len = dcf (nzD (renD z d)) (nzD e) from rfl]
  exact decide_eq_decide.2 dcf_zero
theorem dev_pick {xs ys : List Dv} {z : List Int} (hp : (xs.map fun d => nzD (renD z d)).Perm (ys.map nzD)) {k : Nat} (hk : k < xs.length) :
    ∃ j : Nat, grd (xs.map fun d => nzD (renD z d)) (ys.map nzD) (k + 1) = grd (xs.map fun d => nzD (renD z d)) (ys.map nzD) k ++ [(j : Int)] ∧ j < ys.length ∧ (grd (xs.map fun d => nzD (renD z d)) (ys.map nzD) k).contains (j : Int) = false ∧
      (∀ d e, xs[k]? = some d → ys[j]? = some e → isoD z d e = true) ∧ ∀ i : Nat, i < j → (grd (xs.map fun d => nzD (renD z d)) (ys.map nzD) k).contains (i : Int) = false → ∀ d e, xs[k]? = some d → ys[i]? = some e → isoD z d e = false := by
  have ok := grd_ok hp k (by rw [List.length_map]; omega)
  obtain ⟨j, h1, h2, h3, h4, h5⟩ := grd_pick (grd_next hp (by rw [List.length_map]; exact hk) ok)
  refine ⟨j, h1, by simpa using h2, by simpa using h3, fun d e hd he => ?_, fun i hi hc d e hd he => ?_⟩
  · rw [isoD_eq]
    rw [List.getElem?_map, List.getElem?_map, hd, he] at h4
    exact decide_eq_true (Option.some.inj h4).symm
  · rw [isoD_eq]
    refine decide_eq_false (fun q => h5 i hi ⟨by simpa using hc, ?_⟩)
    rw [List.getElem?_map, List.getElem?_map, hd, he]
    simp [q]
set_option maxRecDepth 100000 in
set_option maxHeartbeats 8000000 in
theorem l30Devices_any (x y : Nl) (z : List Int) (v u sz : Value) (w : World) (h : NlV w v x) (h' : NlV w u y) (hz : IntSl w sz z) (hx : nlB x = true) (hy : nlB y = true) (hll : y.ds.length = x.ds.length) (hzl : x.nets ≤ (z.length : Int)) (hperm : (x.ds.map fun d => nzD (renD z d)).Perm (y.ds.map nzD)) :
    Calls Tryz.prog 84 #[v, u, sz] w fun e w' => ∃ v', e = .returned v' ∧ OwnR w' w.heap.size w'.heap.size v' (cpS x y z) ∧ Below w.heap.size w w' := by
  obtain ⟨_, hl, _, hdx, _⟩ := nlB_facts hx
  obtain ⟨_, _, _, hdy, _⟩ := nlB_facts hy
  have HPX := Lib.hid (show ∀ d ∈ x.ds, 2 ≤ d.pins.length ∧ d.pins.length ≤ 3 ∧ ∀ p ∈ d.pins, 0 ≤ p ∧ p < (z.length : Int) from fun d hd => by have := dvB_pins (hdx d hd); exact ⟨this.2.1, this.1, fun p hp => by have := this.2.2 p hp; omega⟩)
  have HPY := Lib.hid (show ∀ d ∈ y.ds, d.pins.length ≤ 3 from fun d hd => (dvB_pins (hdy d hd)).1)
  obtain ⟨s1, s2, rfl, hd, hp⟩ := h
  obtain ⟨t1, t2, rfl, hd', hp'⟩ := h'
  obtain ⟨nx, xs, ps⟩ := x
  obtain ⟨ny, ys, qs⟩ := y
  unfold cpS
  dsimp only at *
  have HX := Lib.hid hd
  have HY := Lib.hid hd'
  have HZ := Lib.hid hz
  have HPK := Lib.hid (fun k hk => dev_pick (k := k) hperm hk)
  obtain ⟨a1, c1, rfl⟩ := hd.sized
  obtain ⟨a2, c2, rfl⟩ := hp.sized
  obtain ⟨b1, d1, rfl⟩ := hd'.sized
  obtain ⟨b2, d2, rfl⟩ := hp'.sized
  obtain ⟨az, cz, rfl⟩ := hz.len
  obtain ⟨n, hn⟩ : ∃ n, xs.length = n := ⟨_, rfl⟩
  obtain ⟨p, hpl⟩ : ∃ n, ps.length = n := ⟨_, rfl⟩
  obtain ⟨q2, hql⟩ : ∃ n, qs.length = n := ⟨_, rfl⟩
  obtain ⟨m, hm⟩ : ∃ n, z.length = n := ⟨_, rfl⟩
  have HSM := Lib.hid (fun (d e : Dv) sx sy w h h' hn a b c f => same_any d e z sx sy (.slice az m cz) w h h' hn a b c f)
  rw [hpl, hql, hm]
  rw [hm] at HZ HPX
  rw [hll] at HY HPK ⊢
  rw [hn] at HX HY HPK hl ⊢
  have HN := Lib.hid hn
  have HM := Lib.hid (hll.trans hn)
  have HZM := Lib.hid hm
  have HG0 := Lib.hid (show grd (xs.map fun d => nzD (renD z d)) (ys.map nzD) 0 = [] from rfl)
  generalize grd (xs.map fun d => nzD (renD z d)) (ys.map nzD) = G at *
  clear hd hp hd' hp' hz hx hy hdx hdy hn hpl hql hll hm hperm hzl
  obtain ⟨cs0, hcs0, hz0, hmk⟩ := make_bools n (by omega) (((w.alloc (.cells #[.int .i64 nx, .slice a1 n c1, .slice a2 p c2] 35)).alloc (.cells #[.int .i64 ny, .slice b1 n d1, .slice b2 q2 d2] 35)).alloc (.cells #[] 2))
  simp only [World.size_alloc] at hmk
  have HU0 : Hid (UsedB ((((w.alloc (.cells #[.int .i64 nx, .slice a1 n c1, .slice a2 p c2] 35)).alloc (.cells #[.int .i64 ny, .slice b1 n d1, .slice b2 q2 d2] 35)).alloc (.cells #[] 2)).alloc (.cells cs0 4)) (w.heap.size + 3) n (G 0)) := Lib.hid ⟨cs0, Blk.new _ (by simp), hcs0, fun j hj => by rw [HG0.out]; exact hz0 j hj⟩
  have HI0 : Hid (IBld ((((w.alloc (.cells #[.int .i64 nx, .slice a1 n c1, .slice a2 p c2] 35)).alloc (.cells #[.int .i64 ny, .slice b1 n d1, .slice b2 q2 d2] 35)).alloc (.cells #[] 2)).alloc (.cells cs0 4)) (w.heap.size + 2) 0 0 (G 0)) := Lib.hid (by rw [HG0.out]; exact IBld.lit ((Blk.new _ (by simp)).past _))
  clear hz0 hcs0
  go_enter Tryz.func84, Tryz.ntmps84
  go_wp2
  clear hmk
  go_loopw [7, 9] (fun ov iv wr => ∃ (k g c : Nat), k ≤ n ∧ ov = .slice (some ⟨g, 0, none⟩) k c ∧ iv = .int .i64 (k : Int) ∧ Hid (IBld wr g k c (G k)) ∧ Hid (UsedB wr (w.heap.size + 3) n (G k)) ∧ g ≠ w.heap.size + 3 ∧ w.heap.size + 2 ≤ g ∧ Blk wr w.heap.size #[.int .i64 nx, .slice a1 n c1, .slice a2 p c2] 35 ∧ Blk wr (w.heap.size + 1) #[.int .i64 ny, .slice b1 n d1, .slice b2 q2 d2] 35 ∧ Below w.heap.size w wr) (fun _ iv _ => n - (intOf iv).toNat)
  case atStart => exact ⟨0, w.heap.size + 2, 0, Nat.zero_le _, rfl, rfl, HI0, HU0, by omega, by omega, blkT, blkT, blwT⟩
  case round =>
    clear HI0 HU0
    obtain ⟨k, g, c, hk, rfl, rfl, HI, HU, hg, hg2, kA, kB, hb⟩ := hrel
    have qA := kA.cell
    have lA := kA.lt
    by_cases hlt : k < n
    · have i1 : (k : Int) < (n : Int) := by omega
      have i2 : decide (k < n) = true := decide_eq_true hlt
      obtain ⟨j0, hpk, hj0, hjc, hjs, hjn⟩ := HPK.out k hlt
      have HPP := Lib.hid hpk
      have HJC := Lib.hid hjc
      have HJS := Lib.hid hjs
      have HJN := Lib.hid hjn
      obtain ⟨dx, hx⟩ : ∃ x, xs[k]? = some x := ⟨_, List.getElem?_eq_getElem (by rw [HN.out]; exact hlt)⟩
      have hpx := HPX.out dx (List.mem_of_getElem? hx)
      rcases HX.out with ⟨_, _, _, h2⟩ | ⟨xb, xo, xc, he, _, _, h4⟩
      · rw [h2] at hx; simp at hx
      obtain ⟨rfl, rfl⟩ : a1 = some ⟨xb, xo, none⟩ ∧ c1 = xc := by
        simp only [Value.slice.injEq] at he
        exact ⟨he.1, he.2.2⟩
      have hdx := h4 k dx hx
      have HDX := Lib.hid hdx
      have HXK := Lib.hid hx
      have HPD := Lib.hid hpx
      clear hpk hjc hjs hjn hx hpx he h4 hdx
      go_wp2
      obtain ⟨wo, rfl⟩ : ∃ z : World, z = wr := ⟨_, rfl⟩
      go_loopw [10] (fun kv wr => ∃ q : Nat, q ≤ j0 ∧ kv = .int .i64 (q : Int) ∧ Below wo.heap.size wo wr) (fun kv _ => j0 - (intOf kv).toNat)
      case atStart => exact ⟨0, Nat.zero_le _, rfl, blwT⟩
      case round =>
        obtain ⟨q, hq, rfl, hbo⟩ := hrel
        have hbw := below_on hbo hb
        have kAq := Blk.by hbo kA
        have kBq := Blk.by hbo kB
        have HUq := Lib.hid (HU.out.by hbo)
        have hqn : q < n := by omega
        obtain ⟨dy, hy⟩ : ∃ y, ys[q]? = some y := ⟨_, List.getElem?_eq_getElem (by rw [HM.out]; exact hqn)⟩
        have hpy := HPY.out dy (List.mem_of_getElem? hy)
        rcases HY.out with ⟨_, _, _, h2⟩ | ⟨yb, yo, yc, he', _, _, h4'⟩
        · rw [h2] at hy; simp at hy
        obtain ⟨rfl, rfl⟩ : b1 = some ⟨yb, yo, none⟩ ∧ d1 = yc := by
          simp only [Value.slice.injEq] at he'
          exact ⟨he'.1, he'.2.2⟩
        obtain ⟨sx, x1, x2, x3, x4, x5⟩ := HDX.out.by hbw
        obtain ⟨sy, y1, y2, y3, y4, y5⟩ := (h4' q dy hy).by hbw
        obtain ⟨px, cx, rfl⟩ := x5.len
        obtain ⟨py, cy, rfl⟩ := y5.len
        have HXP := Lib.hid x5
        have HYP := Lib.hid y5
        have HYK := Lib.hid hy
        have lx := lt_of_cell x1
        have ly := lt_of_cell y1
        dsimp only at lx ly
        obtain ⟨cU, fU, lU⟩ := HUq.out.cell hqn
        have j1 : (q : Int) < (n : Int) := by omega
        have j2 : decide (q < n) = true := decide_eq_true hqn
        have HC := Lib.hid (HSM.out dx dy _ _ wr.drew (HXP.out.by (below_of_drewN wr 1)) (HYP.out.by (below_of_drewN wr 1)) ((HZ.out.by hbw).by (below_of_drewN wr 1)) HPD.out.2.1 (fun e => by have := HPD.out.1; rw [e] at this; simp at this) (fun p hp => by have := HPD.out.2.2 p hp; rw [HZM.out]; exact this) hpy)
        clear hy he' h4' x5 y5 hpy
        have qAq := kAq.cell
        have qBq := kBq.cell
        have lAq := kAq.lt
        have lBq := kBq.lt
        cases hcn : (G k).contains (q : Int) with
        | true =>
          have hqj : q < j0 := by
            by_cases e : q = j0
            · subst e; rw [HJC.out] at hcn; cases hcn
            · omega
          rw [hcn] at cU
          clear hcn HC
          go_upto_region 7 with fail
          go_cut [41] from 23 to 43 (fun cc wx => cc = .bool true ∧ Below wo.heap.size wo wx)
          case first =>
            go_quiet (fail)
            go_wp2
            go_meet
            exact ⟨rfl, (by first | exact hbo | exact below_on (below_of_drewN _ _) hbo)⟩
          case rest =>
            obtain ⟨rfl, hbc⟩ := hcut
            clear cU x1 x2 x3 x4 y1 y2 y3 y4 qAq qBq lAq lBq kAq kBq hbo
            go_wp2
            exact ⟨⟨q + 1, by omega, by go_num, hbc⟩, by simp [intOf]; omega⟩
        | false =>
          rw [hcn] at cU
          have HCN := Lib.hid hcn
          clear hcn
          go_upto_region 7 with fail
          have hS : (fun w' : World => Below wr.heap.size wr w') { wr with drawn := wr.drawn + 1 } := below_of_drewN wr 1
          refine wp_region_any (by kernel_rfl) (wpAny_of_E (S := fun w' : World => Below wr.heap.size wr w') (l := 18) _ _ _ _ ?_)
          change wpAnyE _ _ _ _ _ _ _ _ _ wr.drew
          refine wpAnyE_takeL (i := 0) (v := ?_) rfl (by kernel_rfl) (fun _ _ _ h => h) (Or.inl ⟨by rfl, ?_⟩) hS ?_
          rotate_left
          · intro w hSw; (try dsimp only at hSw); obtain ⟨hcS, hfS⟩ := bcell hSw; clear hSw; go_simp; (try with_reducible rfl)
          try simp only [Act.put, List.setIfInBounds_toArray, List.set_cons_zero, List.set_cons_succ]
          refine wpAnyE_takeL (i := 1) (v := ?_) rfl (by kernel_rfl) (fun _ _ _ h => h) (Or.inl ⟨by rfl, ?_⟩) hS ?_
          rotate_left
          · intro w hSw; (try dsimp only at hSw); obtain ⟨hcS, hfS⟩ := bcell hSw; clear hSw; go_simp; (try with_reducible rfl)
          try simp only [Act.put, List.setIfInBounds_toArray, List.set_cons_zero, List.set_cons_succ]
          refine wpAnyE_takeL (i := 2) (v := ?_) rfl (by kernel_rfl) (fun _ _ _ h => h) (Or.inl ⟨by rfl, ?_⟩) hS ?_
          rotate_left
          · intro w hSw; (try dsimp only at hSw); obtain ⟨hcS, hfS⟩ := bcell hSw; clear hSw; go_simp; (try with_reducible rfl)
          try simp only [Act.put, List.setIfInBounds_toArray, List.set_cons_zero, List.set_cons_succ]
          refine wpAnyE_takeL (i := 3) (v := ?_) rfl (by kernel_rfl) (fun _ _ _ h => h) (Or.inl ⟨by rfl, ?_⟩) hS ?_
          rotate_left
          · intro w hSw; (try dsimp only at hSw); obtain ⟨hcS, hfS⟩ := bcell hSw; clear hSw; go_simp; (try with_reducible rfl)
          try simp only [Act.put, List.setIfInBounds_toArray, List.set_cons_zero, List.set_cons_succ]
          refine wpAnyE_takeL (i := 4) (v := ?_) rfl (by kernel_rfl) (fun _ _ _ h => h) (Or.inl ⟨by rfl, ?_⟩) hS ?_
          rotate_left
          · intro w hSw; (try dsimp only at hSw); obtain ⟨hcS, hfS⟩ := bcell hSw; clear hSw; go_simp; (try with_reducible rfl)
          try simp only [Act.put, List.setIfInBounds_toArray, List.set_cons_zero, List.set_cons_succ]
          refine wpAnyE_takeL (i := 5) (v := ?_) rfl (by kernel_rfl) (fun _ _ _ h => h) (Or.inl ⟨by rfl, ?_⟩) hS ?_
          rotate_left
          · intro w hSw; (try dsimp only at hSw); obtain ⟨hcS, hfS⟩ := bcell hSw; clear hSw; go_simp; (try with_reducible rfl)
          try simp only [Act.put, List.setIfInBounds_toArray, List.set_cons_zero, List.set_cons_succ]
          refine wpAnyE_takeL (i := 6) (v := ?_) rfl (by kernel_rfl) (fun _ _ _ h => h) (Or.inl ⟨by rfl, ?_⟩) hS ?_
          rotate_left
          · intro w hSw; (try dsimp only at hSw); obtain ⟨hcS, hfS⟩ := bcell hSw; clear hSw; go_simp; (try with_reducible rfl)
          try simp only [Act.put, List.setIfInBounds_toArray, List.set_cons_zero, List.set_cons_succ]
          refine wpAnyE_takeL (i := 7) (v := ?_) rfl (by kernel_rfl) (fun _ _ _ h => h) (Or.inl ⟨by rfl, ?_⟩) hS ?_
          rotate_left
          · intro w hSw; (try dsimp only at hSw); obtain ⟨hcS, hfS⟩ := bcell hSw; clear hSw; go_simp; (try with_reducible rfl)
          try simp only [Act.put, List.setIfInBounds_toArray, List.set_cons_zero, List.set_cons_succ]
          refine wpAnyE_takeL (i := 8) (v := ?_) rfl (by kernel_rfl) (fun _ _ _ h => h) (Or.inl ⟨by rfl, ?_⟩) hS ?_
          rotate_left
          · intro w hSw; (try dsimp only at hSw); obtain ⟨hcS, hfS⟩ := bcell hSw; clear hSw; go_simp; (try with_reducible rfl)
          try simp only [Act.put, List.setIfInBounds_toArray, List.set_cons_zero, List.set_cons_succ]
          refine wpAnyE_takeL (i := 9) (v := ?_) rfl (by kernel_rfl) (fun _ _ _ h => h) (Or.inl ⟨by rfl, ?_⟩) hS ?_
          rotate_left
          · intro w hSw; (try dsimp only at hSw); obtain ⟨hcS, hfS⟩ := bcell hSw; clear hSw; go_simp; (try with_reducible rfl)
          try simp only [Act.put, List.setIfInBounds_toArray, List.set_cons_zero, List.set_cons_succ]
          refine wpAnyE_takeL (i := 10) (v := ?_) rfl (by kernel_rfl) (fun _ _ _ h => h) (Or.inl ⟨by rfl, ?_⟩) hS ?_
          rotate_left
          · intro w hSw; (try dsimp only at hSw); obtain ⟨hcS, hfS⟩ := bcell hSw; clear hSw; go_simp; (try with_reducible rfl)
          try simp only [Act.put, List.setIfInBounds_toArray, List.set_cons_zero, List.set_cons_succ]
          refine wpAnyE_takeL (i := 11) (v := ?_) rfl (by kernel_rfl) (fun _ _ _ h => h) (Or.inl ⟨by rfl, ?_⟩) hS ?_
          rotate_left
          · intro w hSw; (try dsimp only at hSw); obtain ⟨hcS, hfS⟩ := bcell hSw; clear hSw; go_simp; (try with_reducible rfl)
          try simp only [Act.put, List.setIfInBounds_toArray, List.set_cons_zero, List.set_cons_succ]
          refine wpAnyE_takeL (i := 12) (v := ?_) rfl (by kernel_rfl) (fun _ _ _ h => h) (Or.inl ⟨by rfl, ?_⟩) hS ?_
          rotate_left
          · intro w hSw; (try dsimp only at hSw); obtain ⟨hcS, hfS⟩ := bcell hSw; clear hSw; go_simp; (try with_reducible rfl)
          try simp only [Act.put, List.setIfInBounds_toArray, List.set_cons_zero, List.set_cons_succ]
          refine wpAnyE_takeL (i := 13) (v := ?_) rfl (by kernel_rfl) (fun _ _ _ h => h) (Or.inl ⟨by rfl, ?_⟩) hS ?_
          rotate_left
          · intro w hSw; (try dsimp only at hSw); obtain ⟨hcS, hfS⟩ := bcell hSw; clear hSw; go_simp; (try with_reducible rfl)
          try simp only [Act.put, List.setIfInBounds_toArray, List.set_cons_zero, List.set_cons_succ]
          refine wpAnyE_takeL (i := 14) (v := ?_) rfl (by kernel_rfl) (fun _ _ _ h => h) (Or.inl ⟨by rfl, ?_⟩) hS ?_
          rotate_left
          · intro w hSw; (try dsimp only at hSw); obtain ⟨hcS, hfS⟩ := bcell hSw; clear hSw; go_simp; (try with_reducible rfl)
          try simp only [Act.put, List.setIfInBounds_toArray, List.set_cons_zero, List.set_cons_succ]
          refine wpAnyE_takeL (i := 15) (v := ?_) rfl (by kernel_rfl) (fun _ _ _ h => h) (Or.inl ⟨by rfl, ?_⟩) hS ?_
          rotate_left
          · intro w hSw; (try dsimp only at hSw); obtain ⟨hcS, hfS⟩ := bcell hSw; clear hSw; go_simp; (try with_reducible rfl)
          try simp only [Act.put, List.setIfInBounds_toArray, List.set_cons_zero, List.set_cons_succ]
          refine wpAnyE_oneL (k := 16) (by kernel_rfl) rfl (fun K hK => ?_)
          go_simp
          go_at_call 70
          refine HC.out.mono ?_
          rintro e w3 ⟨rfl, hb3⟩
          have hb4 : Below wr.heap.size wr w3 := below_on hb3 (below_of_drewN wr 1)
          clear hS
          refine hK.out _ _ (fun _ => hb4) ?_
          try simp only [Act.put, List.setIfInBounds_toArray, List.set_cons_zero, List.set_cons_succ]
          refine wpAnyE_oneL (k := 17) (by kernel_rfl) rfl (fun K hK => ?_)
          go_simp
          refine hK.out _ _ (fun _ => hb4) ?_
          try simp only [Act.put, List.setIfInBounds_toArray, List.set_cons_zero, List.set_cons_succ]
          refine wpAnyE_oneL (k := 18) (by kernel_rfl) rfl (fun K hK => ?_)
          go_simp
          refine hK.out _ _ (fun h => absurd rfl h) ?_
          refine wpAnyE_done (by kernel_rfl) ?_ _
          have hbo4 := below_on hb4 hbo
          clear hb3 cU x1 x2 x3 x4 y1 y2 y3 y4 qAq qBq lAq lBq HC HXP HYP
          by_cases hqj : q < j0
          · have hiso := HJN.out q hqj HCN.out dx dy HXK.out HYK.out
            rw [hiso]
            clear hiso
            go_wp2
            exact ⟨⟨q + 1, by omega, by go_num, hbo4⟩, by simp [intOf]; omega⟩
          · obtain rfl : j0 = q := by omega
            have hiso := HJS.out dx dy HXK.out HYK.out
            rw [hiso]
            have HU4 := Lib.hid (HU.out.by hbo4)
            have HI4 := Lib.hid (HI.out.by hbo4)
            have kA4 := Blk.by hbo4 kA
            have kB4 := Blk.by hbo4 kB
            have hb4w := below_on hbo4 hb
            obtain ⟨cU, fU, lU⟩ := HU4.out.cell hqn
            have hU5 := HU4.out.add hqn
            have HU5 := Lib.hid ((hU5.by ((Below.refl _ _).alloc (Nat.le_refl _) (.cells #[.int .i64 (j0 : Int)] 2))))
            have HI5 := Lib.hid ((HI4.out.apart (b := w.heap.size + 3) (o := j0) (v := .bool true) hg).by ((Below.refl _ _).alloc (Nat.le_refl _) (.cells #[.int .i64 (j0 : Int)] 2)))
            have kA5 := (kA4.apart (w.heap.size + 3) j0 (.bool true) (by omega)).past (.cells #[.int .i64 (j0 : Int)] 2)
            have kB5 := (kB4.apart (w.heap.size + 3) j0 (.bool true) (by omega)).past (.cells #[.int .i64 (j0 : Int)] 2)
            have hb5w : Below w.heap.size w ((w3.setCell ⟨w.heap.size + 3, j0, none⟩ (.bool true)).alloc (.cells #[.int .i64 (j0 : Int)] 2)) := (hb4w.setCell (show w.heap.size ≤ w.heap.size + 3 by omega) _).alloc (by simp; have := hb4w.size; omega) _
            have hgl := HI4.out.2.2
            clear hiso hU5
            go_wp2_with (refine list_pushX (by rfl) _ _ (by rfl) g k c (G k) (by rfl) HI5.out w3.heap.size (j0 : Int) (by rfl) (Blk.new _ (by simp)) (by omega) ?_; intro g9 c9 w9 hI9 hgr hgn; have HI9 := Lib.hid hI9; have HU9 := Lib.hid (HU5.out.keep hgr (by omega)); have kA9 := keep_blk hgr kA5 (by omega); have kB9 := keep_blk hgr kB5 (by omega); have hb9 := keep_below hgr hb5w (by omega); clear hI9 hgr)
            simp only [World.size_alloc, World.size_setCell] at hgn
            have hs4 := hb4w.size
            exact ⟨⟨k + 1, g9, c9, by omega, by rfl, by go_num, Lib.hid (by rw [HPP.out]; exact HI9.out), Lib.hid (by rw [HPP.out]; exact HU9.out), by omega, by omega, kA9, kB9, hb9⟩, by simp [intOf]; omega⟩
    · obtain rfl : n = k := by omega
      have i1 : ¬ (n : Int) < (n : Int) := by omega
      have hO := HI.out.bld.own
      have hgl := HI.out.2.2
      have HO := Lib.hid hO
      clear hO hlt
      go_wp2
      go_ret
      exact ⟨_, rfl, OwnR.wide' HO.out (by omega) (by omega), hb⟩
theorem list_pushN {ops : Array Oper} {rest : List Oper} {o : Oper} {a : Act} {w : World} {Q : Exit → Act → World → Prop} (hgd : o.guard = none) (s x : Operand)
    (ho : o.op = .call { callee := .builtin .append, args := #[s, x], argTypes := #[27, 27] })
    (lo hi N : Nat) (v : Value) (zs ys : List Int) (hN : zs.length = N) (hs : a.eval s = v) (hB : BldI w lo hi v zs) (nb m : Nat) (cs : Array Value) (hx : a.eval x = .slice (some ⟨nb, 0, none⟩) m m) (hys : ys.length = m) (hm : 0 < m)
    (hnb : Blk w nb cs 2) (hcs : cs.toList = icells ys) (hlo : lo ≤ hi) (hn : N + m ≤ 8000000)
    (hK : ∀ a' c' w', BldI w' lo w'.heap.size (.slice a' (N + m) c') (zs ++ ys) → Within lo hi w w' → wpList Tryz.prog ops Q rest (a.put o.dst (.slice a' (N + m) c')) w') : wpList Tryz.prog ops Q (o :: rest) a w := by
  subst hN
  exact list_pushI hgd s x ho lo hi v zs ys hs hB nb m cs hx hys hm hnb hcs hlo hn hK
set_option maxRecDepth 100000 in
set_option maxHeartbeats 8000000 in
theorem counterparts_any (x y : Nl) (z : List Int) (v u sz : Value) (w : World) (h : NlV w v x) (h' : NlV w u y) (hz : IntSl w sz z) (hx : nlB x = true) (hy : nlB y = true) (hll : y.ds.length = x.ds.length) (hzl : x.nets ≤ (z.length : Int)) (hperm : (x.ds.map fun d => nzD (renD z d)).Perm (y.ds.map nzD)) :
    Calls Tryz.prog 45 #[v, u, sz] w fun e w' => ∃ v', e = .returned v' ∧ OwnR w' w.heap.size w'.heap.size v' (cpS x y z) ∧ Below w.heap.size w w' := by
  obtain ⟨_, hl, _, hdx, _⟩ := nlB_facts hx
  obtain ⟨_, _, _, hdy, _⟩ := nlB_facts hy
  have HPX := Lib.hid (show ∀ d ∈ x.ds, 2 ≤ d.pins.length ∧ d.pins.length ≤ 3 ∧ ∀ p ∈ d.pins, 0 ≤ p ∧ p < (z.length : Int) from fun d hd => by have := dvB_pins (hdx d hd); exact ⟨this.2.1, this.1, fun p hp => by have := this.2.2 p hp; omega⟩)
  have HPY := Lib.hid (show ∀ d ∈ y.ds, d.pins.length ≤ 3 from fun d hd => (dvB_pins (hdy d hd)).1)
  obtain ⟨s1, s2, rfl, hd, hp⟩ := h
  obtain ⟨t1, t2, rfl, hd', hp'⟩ := h'
  obtain ⟨nx, xs, ps⟩ := x
  obtain ⟨ny, ys, qs⟩ := y
  unfold cpS
  dsimp only at *
  have HX := Lib.hid hd
  have HY := Lib.hid hd'
  have HZ := Lib.hid hz
  have HPK := Lib.hid (fun k hk => dev_pick (k := k) hperm hk)
  obtain ⟨a1, c1, rfl⟩ := hd.sized
  obtain ⟨a2, c2, rfl⟩ := hp.sized
  obtain ⟨b1, d1, rfl⟩ := hd'.sized
  obtain ⟨b2, d2, rfl⟩ := hp'.sized
  obtain ⟨az, cz, rfl⟩ := hz.len
  obtain ⟨n, hn⟩ : ∃ n, xs.length = n := ⟨_, rfl⟩
  obtain ⟨p, hpl⟩ : ∃ n, ps.length = n := ⟨_, rfl⟩
  obtain ⟨q2, hql⟩ : ∃ n, qs.length = n := ⟨_, rfl⟩
  obtain ⟨m, hm⟩ : ∃ n, z.length = n := ⟨_, rfl⟩
  have HMP := Lib.hid (fun (d : Dv) sx w (h : IntSl w sx d.pins) hn a b c => mappedO_any d z sx (.slice az m cz) w h hn a b c)
  have HNY := Lib.hid (fun (d : Dv) sx w (h : IntSl w sx d.pins) hn => implNorm_any d.kind d.wd d.len sx d.pins w h hn)
  have HCD := Lib.hid (fun (d e : Dv) s1 s2 xs ys w h h' => compareDevices_any d.kind d.wd d.len e.kind e.wd e.len s1 s2 xs ys w h h')
  have HCT := Lib.hid (fun sv zs k w h hl => containsI_any sv zs k w h hl)
  have HIS := Lib.hid (fun (d e : Dv) (h : ∀ k, devcmp d.kind e.kind (normz d.kind (d.pins.map (nmOf z))) (normz e.kind e.pins) d.wd e.wd d.len e.len = k → decide (k = 0) = isoD z d e) => h)
  have HIZ := Lib.hid (fun (d e : Dv) => (show isoD z d e = decide (devcmp d.kind e.kind (normz d.kind (d.pins.map (nmOf z))) (normz e.kind e.pins) d.wd e.wd d.len e.len = 0) from rfl))
  rw [hpl, hql, hm]
  rw [hm] at HZ HPX
  rw [hll] at HY HPK ⊢
  rw [hn] at HX HY HPK hl ⊢
  have HN := Lib.hid hn
  have HM := Lib.hid (hll.trans hn)
  have HZM := Lib.hid hm
  have HGL := Lib.hid (show ∀ k, k ≤ n → (grd (xs.map fun d => nzD (renD z d)) (ys.map nzD) k).length = k from by
    intro k
    induction k with
    | zero => intro _; rfl
    | succ k ih =>
      intro hk
      obtain ⟨j, h1, _⟩ := HPK.out k (by omega)
      rw [h1, List.length_append, ih (by omega)]
      rfl)
  have HG0 := Lib.hid (show grd (xs.map fun d => nzD (renD z d)) (ys.map nzD) 0 = [] from rfl)
  generalize grd (xs.map fun d => nzD (renD z d)) (ys.map nzD) = G at *
  clear hd hp hd' hp' hz hx hy hdx hdy hn hpl hql hll hm hperm hzl HIS
  have HI0 : Hid (BldI (((w.alloc (.cells #[.int .i64 nx, .slice a1 n c1, .slice a2 p c2] 35)).alloc (.cells #[.int .i64 ny, .slice b1 n d1, .slice b2 q2 d2] 35)).alloc (.cells #[] 2)) (w.heap.size + 2) (w.heap.size + 3) (.slice (some ⟨w.heap.size + 2, 0, none⟩) 0 0) (G 0)) := Lib.hid (by rw [HG0.out]; exact BldI.lit (zs := []) (Blk.new _ (by simp)) rfl (by simp) (Nat.le_refl _) (by omega) (by simp))
  go_enter Tryz.func45, Tryz.ntmps45
  go_wp2
  go_loopw [7, 17] (fun ov iv wr => ∃ (k c hi : Nat) (ga : Option Addr), k ≤ n ∧ ov = .slice ga k c ∧ iv = .int .i64 (k : Int) ∧ Hid (BldI wr (w.heap.size + 2) hi (.slice ga k c) (G k)) ∧ w.heap.size + 2 ≤ hi ∧ hi ≤ wr.heap.size ∧ Blk wr w.heap.size #[.int .i64 nx, .slice a1 n c1, .slice a2 p c2] 35 ∧ Blk wr (w.heap.size + 1) #[.int .i64 ny, .slice b1 n d1, .slice b2 q2 d2] 35 ∧ Below w.heap.size w wr) (fun _ iv _ => n - (intOf iv).toNat)
  case atStart => exact ⟨0, 0, w.heap.size + 3, _, Nat.zero_le _, rfl, rfl, HI0, by omega, by simp, blkT, blkT, blwT⟩
  case round =>
    clear HI0
    obtain ⟨k, c, hi, ga, hk, rfl, rfl, HI, hhi, hhs, kA, kB, hb⟩ := hrel
    have qA := kA.cell
    have lA := kA.lt
    by_cases hlt : k < n
    · have i1 : (k : Int) < (n : Int) := by omega
      have i2 : decide (k < n) = true := decide_eq_true hlt
      obtain ⟨j0, hpk, hj0, hjc, hjs, hjn⟩ := HPK.out k hlt
      have HPP := Lib.hid hpk
      have HJC := Lib.hid hjc
      have HJS := Lib.hid hjs
      have HJN := Lib.hid hjn
      obtain ⟨dx, hx⟩ : ∃ x, xs[k]? = some x := ⟨_, List.getElem?_eq_getElem (by rw [HN.out]; exact hlt)⟩
      have hpx := HPX.out dx (List.mem_of_getElem? hx)
      rcases HX.out with ⟨_, _, _, h2⟩ | ⟨xb, xo, xc, he, _, _, h4⟩
      · rw [h2] at hx; simp at hx
      obtain ⟨rfl, rfl⟩ : a1 = some ⟨xb, xo, none⟩ ∧ c1 = xc := by
        simp only [Value.slice.injEq] at he
        exact ⟨he.1, he.2.2⟩
      obtain ⟨sx, x1, x2, x3, x4, x5⟩ := (h4 k dx hx).by hb
      have HXK := Lib.hid hx
      have HPD := Lib.hid hpx
      have HX5 := Lib.hid x5
      obtain ⟨px, cx, rfl⟩ := x5.len
      have lx := lt_of_cell x1
      dsimp only at lx
      have HNZ := Lib.hid (show (normz dx.kind (dx.pins.map (nmOf z))).length = dx.pins.length from by rw [length_normz, List.length_map])
      clear hpk hjc hjs hjn hx hpx he h4 x5
      obtain ⟨PX, hPX⟩ : ∃ P, dx.pins.length = P := ⟨_, rfl⟩
      rw [hPX] at x2 HX5 HNZ
      have HPX2 := Lib.hid hPX
      clear hPX
      go_wp2_with fail
      refine (HMP.out dx (.slice px PX cx) _ (HX5.out.by blwT) (HZ.out.by blwT) (by have := HPD.out.2.1; omega) (fun e => by have h := HPD.out.1; rw [e] at h; simp at h) (fun p hp => by have := HPD.out.2.2 p hp; rw [HZM.out]; exact this)).mono ?_
      rintro e w1 ⟨v1, rfl, hO1, hb1⟩
      obtain ⟨pv, cv, rfl⟩ := hO1.sl.len
      obtain ⟨PV, hPV⟩ : ∃ P, (normz dx.kind (dx.pins.map (nmOf z))).length = P := ⟨_, rfl⟩
      rw [hPV] at hO1 ⊢
      have HO1 := Lib.hid hO1.sl
      have hbr : Below wr.heap.size wr w1 := blwT
      have kA1 := Blk.by hbr kA
      have kB1 := Blk.by hbr kB
      have HI1 := Lib.hid (HI.out.by hbr)
      have hb1w := below_on hbr hb
      have hs1 := hbr.size
      clear hO1 hPV HNZ hb1 x1 x2 x3 x4 lx qA lA HX5
      have qB := kB1.cell
      have lB := kB1.lt
      go_wp2
      have kO0 : Blk (w1.alloc (.cells #[.int .i64 dx.kind, .slice pv PV cv, .int .i64 dx.wd, .int .i64 dx.len] 62)) w1.heap.size #[.int .i64 dx.kind, .slice pv PV cv, .int .i64 dx.wd, .int .i64 dx.len] 62 := Blk.new _ rfl
      obtain ⟨wo, hwo⟩ : ∃ z : World, z = w1.alloc (.cells #[.int .i64 dx.kind, .slice pv PV cv, .int .i64 dx.wd, .int .i64 dx.len] 62) := ⟨_, rfl⟩
      have hbo1 : Below w1.heap.size w1 wo := by rw [hwo]; exact (Below.refl _ w1).alloc (Nat.le_refl _) _
      rw [← hwo] at kO0 ⊢
      have kA2 := Blk.by hbo1 kA1
      have kB2 := Blk.by hbo1 kB1
      have HI2 := Lib.hid (HI1.out.by hbo1)
      have HO2 := Lib.hid (HO1.out.by hbo1)
      have hbow := below_on hbo1 hb1w
      have hso := hbo1.size
      obtain ⟨O, hO⟩ : ∃ O, w1.heap.size = O := ⟨_, rfl⟩
      rw [hO] at kO0 hso hs1 ⊢
      clear hwo hO HI HI1 HO1 kA kB kA1 kB1 qB lB hbr hb1w hb hbo1
      go_loopw [7, 27] (fun ov kv wz => ∃ q : Nat, q ≤ j0 ∧ ov = .slice ga k c ∧ kv = .int .i64 (q : Int) ∧ Below wo.heap.size wo wz) (fun _ kv _ => j0 - (intOf kv).toNat)
      case atStart => exact ⟨0, Nat.zero_le _, rfl, rfl, blwT⟩
      case round =>
        obtain ⟨q, hq, rfl, rfl, hbo⟩ := hrel
        have hqn : q < n := by omega
        obtain ⟨dy, hy⟩ : ∃ y, ys[q]? = some y := ⟨_, List.getElem?_eq_getElem (by rw [HM.out]; exact hqn)⟩
        have hpy := HPY.out dy (List.mem_of_getElem? hy)
        rcases HY.out with ⟨_, _, _, h2⟩ | ⟨yb, yo, yc, he', _, _, h4'⟩
        · rw [h2] at hy; simp at hy
        obtain ⟨rfl, rfl⟩ : b1 = some ⟨yb, yo, none⟩ ∧ d1 = yc := by
          simp only [Value.slice.injEq] at he'
          exact ⟨he'.1, he'.2.2⟩
        obtain ⟨sy, y1, y2, y3, y4, y5⟩ := (h4' q dy hy).by (below_on hbo hbow)
        obtain ⟨py, cy, rfl⟩ := y5.len
        obtain ⟨PY, hPY⟩ : ∃ P, dy.pins.length = P := ⟨_, rfl⟩
        rw [hPY] at y2 y5 hpy
        have HPY2 := Lib.hid hPY
        have HY5 := Lib.hid y5
        have HYK := Lib.hid hy
        have ly := lt_of_cell y1
        dsimp only at ly
        have j1 : (q : Int) < (n : Int) := by omega
        have j2 : decide (q < n) = true := decide_eq_true hqn
        have kO := Blk.by hbo kO0
        have HIq := Lib.hid (HI2.out.by hbo)
        have HCN := Lib.hid (fun w h => HCT.out (.slice ga k c) (G k) (q : Int) w h (by rw [HGL.out k hk]; omega))
        clear hy he' h4' y5 hPY
        go_upto_region 9 with fail
        obtain ⟨wE, hwE⟩ : ∃ z : World, z = wr.alloc (.cells #[.int .i64 dy.kind, .slice py PY cy, .int .i64 dy.wd, .int .i64 dy.len] 62) := ⟨_, rfl⟩
        have kE : Blk wE wr.heap.size #[.int .i64 dy.kind, .slice py PY cy, .int .i64 dy.wd, .int .i64 dy.len] 62 := by rw [hwE]; exact Blk.new _ rfl
        have hbE : Below wr.heap.size wr wE := by rw [hwE]; exact (Below.refl _ wr).alloc (Nat.le_refl _) _
        (try rw [← hwE])
        have kOE := Blk.by hbE kO
        have HIE := Lib.hid (HIq.out.by hbE)
        have hbEo := below_on hbE hbo
        have HOE := Lib.hid (HO2.out.by hbEo)
        have HYE := Lib.hid (HY5.out.by hbE)
        have hsE := hbE.size
        clear hwE y1 y2 y3 y4 ly HIq HY5 kO hbE
        cases hcn : (G k).contains (q : Int) with
        | true =>
          have hqj : q < j0 := by
            by_cases e : q = j0
            · subst e; rw [HJC.out] at hcn; cases hcn
            · omega
          rw [hcn] at HCN
          clear hcn
          go_quiet ((go_at_call 95; exact Calls.quiet_of_same ((HCN.out _ (HIE.out.own.sl.by (below_of_drewN wE _))).mono fun _ _ h => ⟨h.1, h.2.symm⟩)))
          go_wp2
          exact ⟨⟨q + 1, by omega, by rfl, by go_num, blwT⟩, by simp [intOf]; omega⟩
        | false =>
          rw [hcn] at HCN
          have HCF := Lib.hid hcn
          clear hcn
          obtain ⟨R, hR⟩ : ∃ R, devcmp dx.kind dy.kind (normz dx.kind (dx.pins.map (nmOf z))) (normz dy.kind dy.pins) dx.wd dy.wd dx.len dy.len = R := ⟨_, rfl⟩
          have hC := HCD.out dx dy
          have hZ := HIZ.out dx dy
          rw [hR] at hZ
          have HIR := Lib.hid hZ
          have HRR := Lib.hid hR
          clear hC hZ hR
          have hS : (fun w' : World => Blk w' O #[.int .i64 dx.kind, .slice pv PV cv, .int .i64 dx.wd, .int .i64 dx.len] 62 ∧ Blk w' wr.heap.size #[.int .i64 dy.kind, .slice py PY cy, .int .i64 dy.wd, .int .i64 dy.len] 62) { wE with drawn := wE.drawn + 1 } := ⟨kOE.drew, kE.drew⟩
          refine wp_region_any (by kernel_rfl) (wpAny_of_E (S := fun w' : World => Blk w' O #[.int .i64 dx.kind, .slice pv PV cv, .int .i64 dx.wd, .int .i64 dx.len] 62 ∧ Blk w' wr.heap.size #[.int .i64 dy.kind, .slice py PY cy, .int .i64 dy.wd, .int .i64 dy.len] 62) (l := 10) _ _ _ _ ?_)
          change wpAnyE _ _ _ _ _ _ _ _ _ wE.drew
          refine wpAnyE_takeL (i := 0) (v := ?_) rfl (by kernel_rfl) (fun _ _ _ h => h) (Or.inl ⟨by rfl, ?_⟩) hS ?_
          rotate_left
          · intro w hSw; (try dsimp only at hSw); have qO := hSw.1.cell; have qE := hSw.2.cell; have lO := hSw.1.lt; have lE := hSw.2.lt; clear hSw; go_simp; (try with_reducible rfl)
          try simp only [Act.put, List.setIfInBounds_toArray, List.set_cons_zero, List.set_cons_succ]
          refine wpAnyE_takeL (i := 1) (v := ?_) rfl (by kernel_rfl) (fun _ _ _ h => h) (Or.inl ⟨by rfl, ?_⟩) hS ?_
          rotate_left
          · intro w hSw; (try dsimp only at hSw); have qO := hSw.1.cell; have qE := hSw.2.cell; have lO := hSw.1.lt; have lE := hSw.2.lt; clear hSw; go_simp; (try with_reducible rfl)
          try simp only [Act.put, List.setIfInBounds_toArray, List.set_cons_zero, List.set_cons_succ]
          refine wpAnyE_oneL (k := 2) (by kernel_rfl) rfl (fun K hK => ?_)
          go_simp
          go_at_call 95
          refine (HCN.out _ (HIE.out.own.sl.by (below_of_drewN wE 1))).mono ?_
          rintro e w3 ⟨rfl, rfl⟩
          refine hK.out _ _ (fun _ => hS) ?_
          try simp only [Act.put, List.setIfInBounds_toArray, List.set_cons_zero, List.set_cons_succ]
          refine wpAnyE_takeL (i := 3) (v := ?_) rfl (by kernel_rfl) (fun _ _ _ h => h) (Or.inl ⟨by rfl, ?_⟩) hS ?_
          rotate_left
          · intro w hSw; (try dsimp only at hSw); have qO := hSw.1.cell; have qE := hSw.2.cell; have lO := hSw.1.lt; have lE := hSw.2.lt; clear hSw; go_simp; (try with_reducible rfl)
          try simp only [Act.put, List.setIfInBounds_toArray, List.set_cons_zero, List.set_cons_succ]
          refine wpAnyE_takeL (i := 4) (v := ?_) rfl (by kernel_rfl) (fun _ _ _ h => h) (Or.inl ⟨by rfl, ?_⟩) hS ?_
          rotate_left
          · intro w hSw; (try dsimp only at hSw); have qO := hSw.1.cell; have qE := hSw.2.cell; have lO := hSw.1.lt; have lE := hSw.2.lt; clear hSw; go_simp; (try with_reducible rfl)
          try simp only [Act.put, List.setIfInBounds_toArray, List.set_cons_zero, List.set_cons_succ]
          refine wpAnyE_takeL (i := 5) (v := ?_) rfl (by kernel_rfl) (fun _ _ _ h => h) (Or.inl ⟨by rfl, ?_⟩) hS ?_
          rotate_left
          · intro w hSw; (try dsimp only at hSw); have qO := hSw.1.cell; have qE := hSw.2.cell; have lO := hSw.1.lt; have lE := hSw.2.lt; clear hSw; go_simp; (try with_reducible rfl)
          try simp only [Act.put, List.setIfInBounds_toArray, List.set_cons_zero, List.set_cons_succ]
          refine wpAnyE_takeL (i := 6) (v := ?_) rfl (by kernel_rfl) (fun _ _ _ h => h) (Or.inl ⟨by rfl, ?_⟩) hS ?_
          rotate_left
          · intro w hSw; (try dsimp only at hSw); have qO := hSw.1.cell; have qE := hSw.2.cell; have lO := hSw.1.lt; have lE := hSw.2.lt; clear hSw; go_simp; (try with_reducible rfl)
          try simp only [Act.put, List.setIfInBounds_toArray, List.set_cons_zero, List.set_cons_succ]
          refine wpAnyE_oneL (k := 7) (by kernel_rfl) rfl (fun K hK => ?_)
          go_simp
          go_at_call 63
          refine (HNY.out dy (.slice py PY cy) wE.drew (HYE.out.by (below_of_drewN wE 1)) (by rw [HPY2.out]; omega)).mono ?_
          rintro e w4 ⟨v4, rfl, hO4, hb4⟩
          have hb4E : Below wE.heap.size wE w4 := below_on hb4 (below_of_drewN wE 1)
          have kO4 := Blk.by hb4E kOE
          have kE4 := Blk.by hb4E kE
          have HO4 := Lib.hid hO4.sl
          clear hS hO4 hb4
          refine hK.out _ _ (fun _ => ⟨kO4, kE4⟩) ?_
          try simp only [Act.put, List.setIfInBounds_toArray, List.set_cons_zero, List.set_cons_succ]
          refine wpAnyE_oneL (k := 8) (by kernel_rfl) rfl (fun K hK => ?_)
          go_simp
          go_at_call 62
          refine (HCD.out dx dy _ _ _ _ w4 (HOE.out.by hb4E) HO4.out).mono ?_
          rw [HRR.out]
          rintro e w5 ⟨rfl, hb5⟩
          have hb5E := below_on hb5 hb4E
          have kO5 := Blk.by hb5E kOE
          have kE5 := Blk.by hb5E kE
          refine hK.out _ _ (fun _ => ⟨kO5, kE5⟩) ?_
          try simp only [Act.put, List.setIfInBounds_toArray, List.set_cons_zero, List.set_cons_succ]
          refine wpAnyE_oneL (k := 9) (by kernel_rfl) rfl (fun K hK => ?_)
          go_simp
          refine hK.out _ _ (fun _ => ⟨kO5, kE5⟩) ?_
          try simp only [Act.put, List.setIfInBounds_toArray, List.set_cons_zero, List.set_cons_succ]
          refine wpAnyE_oneL (k := 10) (by kernel_rfl) rfl (fun K hK => ?_)
          go_simp
          refine hK.out _ _ (fun h => absurd rfl h) ?_
          refine wpAnyE_done (by kernel_rfl) ?_ _
          have hbo5 := below_on hb5E hbEo
          have HI5 := Lib.hid (HIE.out.by hb5E)
          clear hb5 hb4E hb5E kO4 kE4 kOE kE HIE HOE HYE HO4 hbEo
          by_cases hqj : q < j0
          · have hiso := HJN.out q hqj HCF.out dx dy HXK.out HYK.out
            have hR0 : ¬ R = 0 := by rw [HIR.out] at hiso; exact of_decide_eq_false hiso
            have e1 : (R == 0) = false := by simpa using hR0
            clear hiso
            go_wp2
            exact ⟨⟨q + 1, by omega, by rfl, by go_num, hbo5⟩, by simp [intOf]; omega⟩
          · obtain rfl : j0 = q := by omega
            have hiso := HJS.out dx dy HXK.out HYK.out
            have hR0 : R = 0 := by rw [HIR.out] at hiso; exact of_decide_eq_true hiso
            have HR0 := Lib.hid hR0
            have hR1 : (R == 0) = true := by simpa using hR0
            have kA5 := Blk.by hbo5 kA2
            have kB5 := Blk.by hbo5 kB2
            have hb5w := below_on hbo5 hbow
            have hs5 := hb5w.size
            have hal : Below w5.heap.size w5 (w5.alloc (.cells #[.int .i64 (j0 : Int)] 2)) := (Below.refl _ w5).alloc (Nat.le_refl _) _
            have HI6 := Lib.hid (HI5.out.by hal)
            have kA6 := Blk.by hal kA5
            have kB6 := Blk.by hal kB5
            have hb6w := below_on hal hb5w
            have hso5 := hbo5.size
            clear hiso hR0 hal kO5 kE5
            go_wp2_with (refine list_pushN (by rfl) _ _ (by rfl) (w.heap.size + 2) hi k (.slice ga k c) (G k) [(j0 : Int)] (HGL.out k hk) (by rfl) HI6.out w5.heap.size 1 #[.int .i64 (j0 : Int)] (by rfl) rfl (by omega) (Blk.new _ rfl) rfl (by omega) (by omega) ?_; intro g9 c9 w9 hI9 hW9; have HI9 := Lib.hid hI9; have kA9 := hW9.blk kA6 (.inl (by omega)); have kB9 := hW9.blk kB6 (.inl (by omega)); have hb9 := hW9.below hb6w (by omega); have hs9 := hW9.size; clear hI9 hW9)
            exact ⟨⟨k + 1, c9, w9.heap.size, g9, by omega, by rfl, by go_num, Lib.hid (by rw [HPP.out]; exact HI9.out), by (try simp only [World.size_alloc] at hs9); omega, Nat.le_refl _, kA9, kB9, hb9⟩, by simp [intOf]; omega⟩
    · obtain rfl : n = k := by omega
      have i1 : ¬ (n : Int) < (n : Int) := by omega
      have HO := Lib.hid HI.out.own
      go_wp2
      go_ret
      exact ⟨_, rfl, OwnR.wide' HO.out (by omega) (by omega), hb⟩
set_option maxRecDepth 100000 in
set_option maxHeartbeats 4000000 in
theorem equalFuncD_any (gf : Nat) (lb : Array Value) (eg : ∀ args w, (callFunc gf args).run Tryz.prog w = .ok (.enter gf args) w) (xs ys : List Dv) (s1 s2 : Value) (w : World) (h : DvSl w s1 xs) (h' : DvSl w s2 ys) (hl : xs.length ≤ 1000) (hl' : ys.length ≤ 1000)
    (hc : ∀ (W : World) (x y : Dv) (sx sy : Value), IntSl W sx x.pins → IntSl W sy y.pins → Calls Tryz.prog gf (#[.agg #[.int .i64 x.kind, sx, .int .i64 x.wd, .int .i64 x.len], .agg #[.int .i64 y.kind, sy, .int .i64 y.wd, .int .i64 y.len]] ++ lb) W fun e w' => e = .returned (.bool (decide (x = y))) ∧ Below W.heap.size W w') :
    Calls Tryz.prog 161 #[s1, s2, .func (.func gf) #[] lb] w fun e w' => e = .returned (.bool (decide (xs = ys))) ∧ Below w.heap.size w w' := by
  have HX := Lib.hid h
  have HY := Lib.hid h'
  have HC := Lib.hid hc
  obtain ⟨a1, c1, rfl⟩ := h.sized
  obtain ⟨a2, c2, rfl⟩ := h'.sized
  clear h h' hc
  by_cases hxy : xs.length = ys.length
  · have HEQ := Lib.hid (show (∀ k, k < xs.length → xs[k]? = ys[k]?) → xs = ys from fun h => List.ext_getElem? (fun i => by
      by_cases hi : i < xs.length
      · exact h i hi
      · rw [show xs[i]? = none by simp; omega, show ys[i]? = none by simp; omega]))
    rw [← hxy] at HY ⊢
    have HL := Lib.hid hxy
    obtain ⟨n, hn⟩ : ∃ n, xs.length = n := ⟨_, rfl⟩
    rw [hn] at HX HY HEQ hl ⊢
    have HN := Lib.hid hn
    clear hxy hn hl'
    go_enter Tryz.func161, Tryz.ntmps161
    go_wp2
    go_loopw [17] (fun i wr => ∃ k : Nat, k ≤ n ∧ i = .int .i64 k ∧ Hid (∀ j, j < k → xs[j]? = ys[j]?) ∧ Below w.heap.size w wr) (fun i _ => n - (intOf i).toNat)
    case atStart => exact ⟨0, Nat.zero_le _, rfl, Lib.hid (by intro j h; omega), blwT⟩
    case round =>
      obtain ⟨k, hk, rfl, HI, hb⟩ := hrel
      by_cases hlt : k < n
      · have i1 : (k : Int) < (n : Int) := by omega
        have i2 : decide (k < n) = true := decide_eq_true hlt
        obtain ⟨x, hx⟩ : ∃ x, xs[k]? = some x := ⟨_, List.getElem?_eq_getElem (by rw [HN.out]; exact hlt)⟩
        obtain ⟨y, hy⟩ : ∃ y, ys[k]? = some y := ⟨_, List.getElem?_eq_getElem (by rw [← HL.out, HN.out]; exact hlt)⟩
        rcases HX.out with ⟨_, _, _, h2⟩ | ⟨xb, xo, xc, he, _, _, h4⟩
        · rw [h2] at hx; simp at hx
        obtain ⟨rfl, rfl⟩ : a1 = some ⟨xb, xo, none⟩ ∧ c1 = xc := by
          simp only [Value.slice.injEq] at he
          exact ⟨he.1, he.2.2⟩
        rcases HY.out with ⟨_, _, _, h2⟩ | ⟨yb, yo, yc, he', _, _, h4'⟩
        · rw [h2] at hy; simp at hy
        obtain ⟨rfl, rfl⟩ : a2 = some ⟨yb, yo, none⟩ ∧ c2 = yc := by
          simp only [Value.slice.injEq] at he'
          exact ⟨he'.1, he'.2.2⟩
        obtain ⟨sx, x1, x2, x3, x4, x5⟩ := (h4 k x hx).by hb
        obtain ⟨sy, y1, y2, y3, y4, y5⟩ := (h4' k y hy).by hb
        have ly := lt_of_cell y1
        dsimp only at ly
        have y1' := cell_by' ((Below.refl _ wr).alloc (Nat.le_refl _) (.cells #[.int .i64 x.kind, sx, .int .i64 x.wd, .int .i64 x.len] 62)) y1
        have y2' := cell_by' ((Below.refl _ wr).alloc (Nat.le_refl _) (.cells #[.int .i64 x.kind, sx, .int .i64 x.wd, .int .i64 x.len] 62)) y2
        have y3' := cell_by' ((Below.refl _ wr).alloc (Nat.le_refl _) (.cells #[.int .i64 x.kind, sx, .int .i64 x.wd, .int .i64 x.len] 62)) y3
        have y4' := cell_by' ((Below.refl _ wr).alloc (Nat.le_refl _) (.cells #[.int .i64 x.kind, sx, .int .i64 x.wd, .int .i64 x.len] 62)) y4
        have HXP := Lib.hid x5
        have HYP := Lib.hid y5
        have HXK := Lib.hid hx
        have HYK := Lib.hid hy
        have hC := fun W => HC.out W x y sx sy
        obtain ⟨px, cx, rfl⟩ := x5.len
        obtain ⟨py, cy, rfl⟩ := y5.len
        obtain ⟨R, hR⟩ : ∃ R : Bool, decide (x = y) = R := ⟨_, rfl⟩
        rw [hR] at hC
        have HCC := Lib.hid hC
        have HDC := Lib.hid hR
        clear hC hR hx hy x5 y5 he he' h4 h4'
        cases R with
        | true =>
          have HI2 := Lib.hid (show ∀ j, j < k + 1 → xs[j]? = ys[j]? from fun j hj => by
            by_cases e : j = k
            · subst e; rw [HXK.out, HYK.out, of_decide_eq_true HDC.out]
            · exact HI.out j (by omega))
          go_wp2_with (go_at_fn gf; refine (HCC.out _ (HXP.out.by blwT) (HYP.out.by blwT)).mono ?_; rintro e w1 ⟨rfl, hb1⟩)
          exact ⟨⟨k + 1, by omega, by go_num, HI2, blwT⟩, by simp [intOf]; omega⟩
        | false =>
          have hne : Hid (¬ xs = ys) := Lib.hid (fun e => by
            have h1 := HXK.out
            rw [e, HYK.out] at h1
            exact of_decide_eq_false HDC.out (Option.some.inj h1).symm)
          go_wp2_with (go_at_fn gf; refine (HCC.out _ (HXP.out.by blwT) (HYP.out.by blwT)).mono ?_; rintro e w1 ⟨rfl, hb1⟩)
          go_ret
          exact ⟨ret_bool (decide_eq_false hne.out).symm, blwT⟩
      · obtain rfl : n = k := by omega
        have i1 : ¬ (n : Int) < (n : Int) := by omega
        have hr := Lib.hid (HEQ.out (fun j hj => HI.out j hj))
        go_wp2
        go_ret
        exact ⟨ret_bool (decide_eq_true hr.out).symm, blwT⟩
  · have hne : ¬ xs = ys := fun e => hxy (by rw [e])
    rw [decide_eq_false hne]
    have e1 : ((xs.length : Int) != (ys.length : Int)) = true := by simp; omega
    have e2 : ((xs.length : Int) == (ys.length : Int)) = false := by simp; omega
    clear hxy hne HX HY
    generalize xs.length = n1 at *
    generalize ys.length = n2 at *
    go_enter Tryz.func161, Tryz.ntmps161
    go_wp2
    go_ret
    exact ⟨rfl, blwT⟩
theorem filt_step {α : Type} {p : α → Bool} {xs : List α} {k : Nat} {x : α} (h : xs[k]? = some x) : (xs.take (k + 1)).filter p = (xs.take k).filter p ++ (if p x = true then [x] else []) := by
  rw [take_snoc_of xs k x h, List.filter_append]
  congr 1
  cases hp : p x <;> simp [hp]
def lowB (n : Nat) (d : Dv) : Bool := d.pins.all fun p => decide (p < (n : Int))
def amB (nets : List Int) (d : Dv) : Bool := d.pins.all fun p => nets.contains p
def mpTo (ds : List Dv) (nets : List Int) (k : Nat) : List Dv := ((ds.take k).filter (lowB nets.length)).map fun d => nzD (renD nets d)
def owTo (es : List Dv) (nets : List Int) (k : Nat) : List Dv := (es.take k).filter (amB nets)
theorem mpTo_step {ds : List Dv} (nets : List Int) {k : Nat} {d : Dv} (h : ds[k]? = some d) : mpTo ds nets (k + 1) = mpTo ds nets k ++ (if lowB nets.length d = true then [nzD (renD nets d)] else []) := by
  unfold mpTo
  rw [filt_step h, List.map_append]
  congr 1
  split <;> rfl
theorem owTo_step {es : List Dv} (nets : List Int) {k : Nat} {d : Dv} (h : es[k]? = some d) : owTo es nets (k + 1) = owTo es nets k ++ (if amB nets d = true then [d] else []) := filt_step h
theorem mpTo_len (ds : List Dv) (nets : List Int) (k : Nat) : (mpTo ds nets k).length ≤ k := by
  unfold mpTo
  rw [List.length_map]
  exact Nat.le_trans (List.length_filter_le _ _) (by rw [List.length_take]; omega)
theorem owTo_len (es : List Dv) (nets : List Int) (k : Nat) : (owTo es nets k).length ≤ k := by
  unfold owTo
  exact Nat.le_trans (List.length_filter_le _ _) (by rw [List.length_take]; omega)
theorem fitI_eq (x y : Nl) (nets : List Int) : fitI x y nets = decide (srtD (mpTo x.ds nets x.ds.length) = srtD (owTo (y.ds.map nzD) nets (y.ds.map nzD).length)) := by
  unfold fitI mpTo owTo lowB amB
  rw [List.take_length, List.take_length]
theorem amB_any (nets : List Int) (d : Dv) : d.pins.any (fun p => !nets.contains p) = !amB nets d := by
  unfold amB
  induction d.pins with
  | nil => rfl
  | cons a l ih => rw [List.any_cons, List.all_cons, ih, Bool.not_and]
theorem lowB_max {n : Nat} {d : Dv} {m : Int} (h1 : m ∈ d.pins) (h2 : ∀ z ∈ d.pins, z ≤ m) : lowB n d = decide (m ≤ (n : Int) - 1) := by
  unfold lowB
  rw [Bool.eq_iff_iff, List.all_eq_true, decide_eq_true_iff]
  constructor
  · intro h
    have := h m h1
    simp at this
    omega
  · intro h p hp
    have := h2 p hp
    simp
    omega
theorem UsedB.drop {w : World} {g n k : Nat} {zs : List Int} (h : UsedB w g n (zs ++ [(k : Int)])) (hk : k < n) (hc : zs.contains (k : Int) = false) : UsedB (w.setCell ⟨g, k, none⟩ (.bool false)) g n zs := by
  obtain ⟨cs, a, b, c⟩ := h
  refine ⟨_, a.set k _, by simpa using b, fun j hj => ?_⟩
  by_cases e : j = k
  · subst e
    rw [Array.getElem?_setIfInBounds_self_of_lt (by omega), hc]
  · rw [Array.getElem?_setIfInBounds_ne (by omega), c j hj]
    congr 2
    rw [List.contains_eq_mem, List.contains_eq_mem]
    refine decide_eq_decide.2 ⟨fun h => ?_, fun h => List.mem_append.2 (.inl h)⟩
    rcases List.mem_append.1 h with h | h
    · exact h
    · rw [List.mem_singleton] at h; omega
def stG (x y : Nl) (col : Nat → Nat → Bool) (n : Nat) (one : Bool) (r : Nat) (nets : List Int) (k : Nat) : List (List Int) :=
  if (col nets.length k && (!nets.contains (k : Int) && fitB x y (nets ++ [(k : Int)]))) = true then srch (fitB x y) col n one r (nets ++ [(k : Int)]) else []
end Go.Proofs.YtifbffianbgeaaaGreat
