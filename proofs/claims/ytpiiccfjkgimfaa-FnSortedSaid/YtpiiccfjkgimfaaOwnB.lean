/- l27Own with pins that may grow afterwards. -/
import Derived.Test.YtpiiccfjkgimfaaBldD
import Derived.Test.YtpiiccfjkgimfaaNorms
namespace Go.Proofs.Ytpiiccfjkgimfaa
open Go.RowKit
set_option linter.unusedVariables false
set_option linter.unusedSimpArgs false

section
variable {w : World} {sv : Value} {zs : List Int}
theorem clone_runB (h : IntSl w sv zs) (hne : zs ≠ []) (hn : zs.length ≤ 1048576) (b : Nat) (ty : TypeId) :
    ∃ v w', (Builtin.append_ #[53, 53] ty #[.slice (some ⟨b, 0, none⟩) 0 0, sv]).run Try.prog w = .ok v w' ∧ BldI w' w.heap.size (w.heap.size + 1) v zs ∧ w'.heap.size = w.heap.size + 1 ∧ Below w.heap.size w w' := by
  obtain ⟨i0, hi, hz0, hz1, hz2⟩ := info_parts infoI
  have hS := src_ints h
  have hl : 0 < zs.length := List.length_pos_iff.2 hne
  have hr := run_append_grow_src (P := Try.prog) w 53 53 ty 2 i0 _ Try.underlying53 hi hz0 (some ⟨b, 0, none⟩) 0 0 [] (by rw [hz1]; exact run_firstCells_some w.drew 1 0 _ 0 0 [] rfl (by simp)) sv zs.length (zs.map (Value.int .i64)) (by rw [hz1]; exact hS) (by omega) (by omega)
    (by rw [hz2]; simp only [Builtin.nextslicecap, Nat.mul_zero, Nat.zero_add]; rw [if_pos (by omega)]; omega)
  have hcap := grownCap_ge w (0 + zs.length) 0 2
  have hmx := grownCap_le_maxLen w (0 + zs.length) 0 2 (by unfold maxLen; omega)
  refine ⟨_, _, hr, ⟨by simp, ⟨by simp [icells], .inr ⟨w.heap.size, grownCap w (0 + zs.length) 0 2, _, by rw [Nat.zero_add], Nat.le_refl _, Blk.new _ rfl, by omega, hmx, ?_, ?_⟩⟩, ?_⟩, by simp, ((Below.refl _ _).drew).alloc (Nat.le_refl _) _⟩
  · rw [Nat.zero_add] at hcap
    simp [Builtin.zeroCells, Value.cells]
    omega
  · rw [Array.toList_append, Nat.mul_one, List.take_append_of_le_length (by simp), List.take_of_length_le (by simp)]
    simp [icells]
  · intro g hg
    have : w.heap.size = g := by injection hg
    omega
end

/-- At a step of a region that draws its order. -/
theorem step_cloneB {ops : Array Oper} {o : Oper} {a : Act} {w : World} {K : Act → World → Prop} {Q : Exit → Act → World → Prop} {E : Prop} (hgd : o.guard = none) (s x : Operand)
    (ho : o.op = .call { callee := .builtin .append, args := #[s, x], argTypes := #[53, 53] })
    (b : Nat) (hs : a.eval s = .slice (some ⟨b, 0, none⟩) 0 0) (sv : Value) (zs : List Int) (hx : a.eval x = sv) (h : IntSl w sv zs) (hne : zs ≠ []) (hn : zs.length ≤ 1048576)
    (hK : ∀ v w' g, BldI w' g (g + 1) v zs → w.heap.size ≤ g → Below w.heap.size w w' → K (a.put o.dst v) w') :
    if Region.wanted o (yielded ops a.tmps) = true then Oper.wp Try.prog o a w K Q else E := by
  have hw : Region.wanted o (yielded ops a.tmps) = true := by simp [Region.wanted, hgd]
  rw [if_pos hw]
  obtain ⟨v, w', hr, h2, h4, h3⟩ := clone_runB h hne hn b o.type
  unfold Oper.wp execOp
  simp only [ho, resolve, invoke, builtin, Sem.run_bind, Sem.run_pure, Result.andThen_ok, List.map_toArray, List.map_cons, List.map_nil, hs, hx, hr]
  exact hK v w' _ h2 (Nat.le_refl _) h3

set_option maxRecDepth 100000 in
set_option maxHeartbeats 1000000 in
theorem own_bld (kind wd len : Int) (sv : Value) (zs : List Int) (w : World) (h : IntSl w sv zs) (hne : zs ≠ []) (hn : zs.length ≤ 1048576) :
    Calls Try.prog 105 #[.agg #[.int .i64 kind, sv, .int .i64 wd, .int .i64 len]] w fun e w' => ∃ v g, e = .returned (.agg #[.int .i64 kind, v, .int .i64 wd, .int .i64 len]) ∧ BldI w' g (g + 1) v zs ∧ w.heap.size ≤ g ∧ Below w.heap.size w w' := by
  obtain ⟨a, c, rfl⟩ := h.len
  have HNE := Lib.hid hne
  clear hne
  go_enter Try.func105, Try.ntmps105
  go_wp2_with fail
  go_region_held_law ((fun w' => (Blk w' (w.heap.size) #[.int .i64 kind, .slice a zs.length c, .int .i64 wd, .int .i64 len] 55 ∧ ∀ o, w'.cell? ⟨w.heap.size, o, none⟩ = (#[.int .i64 kind, .slice a zs.length c, .int .i64 wd, .int .i64 len] : Array Value)[o]?) ∧ Below w.heap.size w w')) (((try (obtain ⟨⟨hS0, _⟩, hSB⟩ := hHeld)); refine ⟨Blk.both ?_, ?_⟩ <;> first | ((repeat (first | (with_reducible assumption) | (with_reducible refine Blk.drewN ?_ _) | (with_reducible refine Blk.drew ?_) | ((with_reducible refine Blk.new _ ?_); focus (first | omega | (simp; done) | (simp; omega))) | (with_reducible refine Blk.past ?_ _) | ((with_reducible refine Blk.apart ?_ _ _ _ ?_); rotate_left; focus (first | omega | (simp; done) | (simp; omega))) | (with_reducible refine Blk.by (by assumption) ?_))); done) | ((repeat (first | (with_reducible exact Below.refl _ _) | (with_reducible refine below_drewN ?_ _) | (with_reducible refine Below.drew ?_) | (with_reducible refine below_al ?_ _) | (with_reducible refine below_on (by assumption) ?_) | ((with_reducible refine Below.setCell ?_ ?_ _); rotate_left; focus (first | omega | (simp; done) | (simp; omega))) | (with_reducible assumption))); done)))
    ((refine step_cloneB (by rfl) _ _ (by rfl) _ (by rfl) _ zs (by rfl) (h.by (by ((repeat (first | (with_reducible exact Below.refl _ _) | (with_reducible refine below_drewN ?_ _) | (with_reducible refine Below.drew ?_) | (with_reducible refine below_al ?_ _) | (with_reducible refine below_on (by assumption) ?_) | ((with_reducible refine Below.setCell ?_ ?_ _); rotate_left; focus (first | omega | (simp; done) | (simp; omega))) | (with_reducible assumption))); done))) HNE.out hn ?_; intro v w3 g hO hg3 hb3; (try simp at hg3); have HO := Lib.hid hO; obtain ⟨a1, c1, rfl⟩ := hO.sized; clear hO; have k2 : Blk w3 (w.heap.size + 1) #[.int .i64 0, .slice none 0 0, .int .i64 0, .int .i64 0] 55 := (by ((repeat (first | (with_reducible assumption) | (with_reducible refine Blk.drewN ?_ _) | (with_reducible refine Blk.drew ?_) | ((with_reducible refine Blk.new _ ?_); focus (first | omega | (simp; done) | (simp; omega))) | (with_reducible refine Blk.past ?_ _) | ((with_reducible refine Blk.apart ?_ _ _ _ ?_); rotate_left; focus (first | omega | (simp; done) | (simp; omega))) | (with_reducible refine Blk.by (by assumption) ?_))); done)); have c2 := k2.cell; have f2 := k2.free; have l2 := k2.lt))
  go_wp2
  refine bodyPost_ret (v := .agg #[.int .i64 kind, .slice a1 zs.length c1, .int .i64 wd, .int .i64 len]) (by simp [results, Try.results105, go_sem, *]) rfl ⟨_, g, rfl, ?_, by omega, (by ((repeat (first | (with_reducible exact Below.refl _ _) | (with_reducible refine below_drewN ?_ _) | (with_reducible refine Below.drew ?_) | (with_reducible refine below_al ?_ _) | (with_reducible refine below_on (by assumption) ?_) | ((with_reducible refine Below.setCell ?_ ?_ _); rotate_left; focus (first | omega | (simp; done) | (simp; omega))) | (with_reducible assumption))); done))⟩
  repeat (first | (with_reducible exact HO.out) | (with_reducible refine BldI.past (Within.off _) ?_ (.inl (by omega))))
end Go.Proofs.Ytpiiccfjkgimfaa
