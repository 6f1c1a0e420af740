/- Copies of devices. -/
import Derived.Test.YthcaipohdeigeaaOwn
import Derived.Test.YthcaipohdeigeaaDev
import Derived.Lib.SliceRun
namespace Go.Proofs.Ythcaipohdeigeaa
open Go.RowKit
set_option linter.unusedVariables false
set_option linter.unusedSimpArgs false

set_option maxRecDepth 100000 in
set_option maxHeartbeats 1000000 in
theorem own_any (kind wd len : Int) (sv : Value) (zs : List Int) (w : World) (h : IntSl w sv zs) (hn : zs.length ≤ 1048576) :
    Calls Try.prog 61 #[.agg #[.int .i64 kind, sv, .int .i64 wd, .int .i64 len]] w fun e w' => ∃ v, e = .returned (.agg #[.int .i64 kind, v, .int .i64 wd, .int .i64 len]) ∧ OwnI w' w.heap.size v zs ∧ Below w.heap.size w w' := by
  obtain ⟨a, c, rfl⟩ := h.len
  go_enter Try.func61, Try.ntmps61
  go_wp2_with fail
  go_region_held_law ((fun w' => (Blk w' (w.heap.size) #[.int .i64 kind, .slice a zs.length c, .int .i64 wd, .int .i64 len] 27 ∧ ∀ o, w'.cell? ⟨w.heap.size, o, none⟩ = (#[.int .i64 kind, .slice a zs.length c, .int .i64 wd, .int .i64 len] : Array Value)[o]?) ∧ Below w.heap.size w w')) (((try (obtain ⟨⟨hS0, _⟩, hSB⟩ := hHeld)); refine ⟨Blk.both ?_, ?_⟩ <;> first | ((repeat (first | (with_reducible assumption) | (with_reducible refine Blk.drewN ?_ _) | (with_reducible refine Blk.drew ?_) | ((with_reducible refine Blk.new _ ?_); focus (first | omega | (simp; done) | (simp; omega))) | (with_reducible refine Blk.past ?_ _) | ((with_reducible refine Blk.apart ?_ _ _ _ ?_); rotate_left; focus (first | omega | (simp; done) | (simp; omega))) | (with_reducible refine Blk.by (by assumption) ?_))); done) | ((repeat (first | (with_reducible exact Below.refl _ _) | (with_reducible refine below_drewN ?_ _) | (with_reducible refine Below.drew ?_) | (with_reducible refine below_al ?_ _) | (with_reducible refine below_on (by assumption) ?_) | ((with_reducible refine Below.setCell ?_ ?_ _); rotate_left; focus (first | omega | (simp; done) | (simp; omega))) | (with_reducible assumption))); done)))
    ((refine step_clone (by rfl) _ _ (by rfl) _ (by rfl) _ zs (by rfl) (h.by (by ((repeat (first | (with_reducible exact Below.refl _ _) | (with_reducible refine below_drewN ?_ _) | (with_reducible refine Below.drew ?_) | (with_reducible refine below_al ?_ _) | (with_reducible refine below_on (by assumption) ?_) | ((with_reducible refine Below.setCell ?_ ?_ _); rotate_left; focus (first | omega | (simp; done) | (simp; omega))) | (with_reducible assumption))); done))) hn (w.heap.size + 2) (by simp; try omega) ?_; intro v w3 hO hb3; obtain ⟨a1, c1, rfl⟩ := hO.len; have k2 : Blk w3 (w.heap.size + 1) #[.int .i64 0, .slice none 0 0, .int .i64 0, .int .i64 0] 27 := (by ((repeat (first | (with_reducible assumption) | (with_reducible refine Blk.drewN ?_ _) | (with_reducible refine Blk.drew ?_) | ((with_reducible refine Blk.new _ ?_); focus (first | omega | (simp; done) | (simp; omega))) | (with_reducible refine Blk.past ?_ _) | ((with_reducible refine Blk.apart ?_ _ _ _ ?_); rotate_left; focus (first | omega | (simp; done) | (simp; omega))) | (with_reducible refine Blk.by (by assumption) ?_))); done)); have c2 := k2.cell; have f2 := k2.free; have l2 := k2.lt))
  go_wp2
  refine bodyPost_ret (v := .agg #[.int .i64 kind, .slice a1 zs.length c1, .int .i64 wd, .int .i64 len]) (by simp [results, Try.results61, go_sem, *]) rfl ⟨_, rfl, ?_, (by ((repeat (first | (with_reducible exact Below.refl _ _) | (with_reducible refine below_drewN ?_ _) | (with_reducible refine Below.drew ?_) | (with_reducible refine below_al ?_ _) | (with_reducible refine below_on (by assumption) ?_) | ((with_reducible refine Below.setCell ?_ ?_ _); rotate_left; focus (first | omega | (simp; done) | (simp; omega))) | (with_reducible assumption))); done))⟩
  refine OwnI.low ?_ (show w.heap.size ≤ w.heap.size + 2 by omega)
  repeat (first | (with_reducible exact hO) | ((with_reducible refine OwnI.apart ?_ _ _ _ ?_); rotate_left; focus omega))

set_option maxRecDepth 100000 in
set_option maxHeartbeats 1000000 in
theorem clone_any (sv : Value) (zs : List Int) (w : World) (h : IntSl w sv zs) (hn : zs.length ≤ 1048576) :
    Calls Try.prog 108 #[sv] w fun e w' => ∃ v, e = .returned v ∧ OwnI w' w.heap.size v zs ∧ Below w.heap.size w w' := by
  obtain ⟨a, c, rfl⟩ := h.len
  have q22 : ∀ (w : World) (a : Option Addr) (n c n' c' : Nat), (binOp .eql 22 (.slice a n c) (.slice none n' c')).run Try.prog w = .ok (.bool a.isNone) w := fun w a n c n' c' => Lib.run_eql_slice_nil w _ _ a n c n' c' Try.underlying22
  cases a with
  | none =>
    have hz : zs = [] := by
      rcases h with ⟨_, _, _, h2⟩ | ⟨b, off, cap, h1, _⟩
      · exact h2
      · simp at h1
    subst hz
    go_enter Try.func108, Try.ntmps108
    go_wp2
    refine bodyPost_ret (v := .slice none 0 0) (by simp [results, Try.results108, go_sem, *]) rfl ⟨_, rfl, .inl ⟨_, _, rfl, rfl⟩, (by ((repeat (first | (with_reducible exact Below.refl _ _) | (with_reducible refine below_drewN ?_ _) | (with_reducible refine Below.drew ?_) | (with_reducible refine below_al ?_ _) | (with_reducible refine below_on (by assumption) ?_) | ((with_reducible refine Below.setCell ?_ ?_ _); rotate_left; focus (first | omega | (simp; done) | (simp; omega))) | (with_reducible assumption))); done))⟩
  | some ad =>
    go_enter Try.func108, Try.ntmps108
    go_wp2_with ((refine list_clone (by rfl) _ _ (by rfl) _ (by rfl) _ zs (by rfl) (h.by (by ((repeat (first | (with_reducible exact Below.refl _ _) | (with_reducible refine below_drewN ?_ _) | (with_reducible refine Below.drew ?_) | (with_reducible refine below_al ?_ _) | (with_reducible refine below_on (by assumption) ?_) | ((with_reducible refine Below.setCell ?_ ?_ _); rotate_left; focus (first | omega | (simp; done) | (simp; omega))) | (with_reducible assumption))); done))) hn w.heap.size (by simp; try omega) ?_; intro v w3 hO hb3; obtain ⟨a1, c1, rfl⟩ := hO.len))
    refine bodyPost_ret (v := .slice a1 zs.length c1) (by simp [results, Try.results108, go_sem, *]) rfl ⟨_, rfl, hO, (by ((repeat (first | (with_reducible exact Below.refl _ _) | (with_reducible refine below_drewN ?_ _) | (with_reducible refine Below.drew ?_) | (with_reducible refine below_al ?_ _) | (with_reducible refine below_on (by assumption) ?_) | ((with_reducible refine Below.setCell ?_ ?_ _); rotate_left; focus (first | omega | (simp; done) | (simp; omega))) | (with_reducible assumption))); done))⟩

set_option maxRecDepth 100000 in
set_option maxHeartbeats 1000000 in
theorem copyDevice_any (kind wd len : Int) (sv : Value) (zs : List Int) (w : World) (h : IntSl w sv zs) (hn : zs.length ≤ 1048576) :
    Calls Try.prog 64 #[.agg #[.int .i64 kind, sv, .int .i64 wd, .int .i64 len]] w fun e w' => ∃ v, e = .returned (.agg #[.int .i64 kind, v, .int .i64 wd, .int .i64 len]) ∧ OwnI w' w.heap.size v zs ∧ Below w.heap.size w w' := by
  have HC := Lib.hid (fun w h => clone_any sv zs w h hn)
  have h1 := h.by (((Below.refl _ w).alloc (Nat.le_refl _) (.cells #[.int .i64 kind, sv, .int .i64 wd, .int .i64 len] 27)).alloc (by simp) (.cells #[.int .i64 0, .slice none 0 0, .int .i64 0, .int .i64 0] 27))
  obtain ⟨a, c, rfl⟩ := h.len
  clear h
  go_enter Try.func64, Try.ntmps64
  go_wp2_with fail
  refine (HC.out _ h1).mono ?_
  rintro e w1 ⟨v, rfl, hO, hb1⟩
  clear h1
  have k0 : Blk w1 w.heap.size #[.int .i64 kind, .slice a zs.length c, .int .i64 wd, .int .i64 len] 27 := (by ((repeat (first | (with_reducible assumption) | (with_reducible refine Blk.drewN ?_ _) | (with_reducible refine Blk.drew ?_) | ((with_reducible refine Blk.new _ ?_); focus (first | omega | (simp; done) | (simp; omega))) | (with_reducible refine Blk.past ?_ _) | ((with_reducible refine Blk.apart ?_ _ _ _ ?_); rotate_left; focus (first | omega | (simp; done) | (simp; omega))) | (with_reducible refine Blk.by (by assumption) ?_))); done))
  have k1 : Blk w1 (w.heap.size + 1) #[.int .i64 0, .slice none 0 0, .int .i64 0, .int .i64 0] 27 := (by ((repeat (first | (with_reducible assumption) | (with_reducible refine Blk.drewN ?_ _) | (with_reducible refine Blk.drew ?_) | ((with_reducible refine Blk.new _ ?_); focus (first | omega | (simp; done) | (simp; omega))) | (with_reducible refine Blk.past ?_ _) | ((with_reducible refine Blk.apart ?_ _ _ _ ?_); rotate_left; focus (first | omega | (simp; done) | (simp; omega))) | (with_reducible refine Blk.by (by assumption) ?_))); done))
  have c0 := k0.cell
  have f0 := k0.free
  have l0 := k0.lt
  have c1 := k1.cell
  have f1 := k1.free
  have l1 := k1.lt
  obtain ⟨a1, c1, rfl⟩ := hO.len
  simp at hO
  go_wp2
  refine bodyPost_ret (v := .agg #[.int .i64 kind, .slice a1 zs.length c1, .int .i64 wd, .int .i64 len]) (by simp [results, Try.results64, go_sem, *]) rfl ⟨_, rfl, ?_, (by ((repeat (first | (with_reducible exact Below.refl _ _) | (with_reducible refine below_drewN ?_ _) | (with_reducible refine Below.drew ?_) | (with_reducible refine below_al ?_ _) | (with_reducible refine below_on (by assumption) ?_) | ((with_reducible refine Below.setCell ?_ ?_ _); rotate_left; focus (first | omega | (simp; done) | (simp; omega))) | (with_reducible assumption))); done))⟩
  refine OwnI.low ?_ (show w.heap.size ≤ w.heap.size + 2 by omega)
  repeat (first | (with_reducible exact hO) | ((with_reducible refine OwnI.apart ?_ _ _ _ ?_); rotate_left; focus omega))
end Go.Proofs.Ythcaipohdeigeaa
