/- append([]int64{}, s...): a copy of the call's own. -/
import Derived.Test.YtjanifoipbmkhaaGreatBase
import Derived.Deep.AppendSrc
import Derived.Laws.AppendOwn
import Derived.Deep.RegionHeldLaw
import Derived.Test.YtjanifoipbmkhaaGreatDevs
import Derived.Lib.SliceRun
namespace Go.Proofs.YtjanifoipbmkhaaGreat
open Go.RowKit
set_option linter.unusedVariables false
set_option linter.unusedSimpArgs false

/-- A slice of the call's own: its cells lie in a block that is not below lo, and may be written. -/
def OwnI (w : World) (lo : Nat) (sv : Value) (zs : List Int) : Prop :=
  (∃ a c, sv = .slice a 0 c ∧ zs = []) ∨ ∃ g cap, ∃ cs : Array Value, sv = .slice (some ⟨g, 0, none⟩) zs.length cap ∧ lo ≤ g ∧ zs.length ≤ cap ∧ cap ≤ maxLen ∧ Blk w g cs 2 ∧ ∀ (i : Nat) (x : Int), zs[i]? = some x → cs[i]? = some (Value.int .i64 x)

section
variable {w w1 : World} {lo : Nat} {sv : Value} {zs : List Int}
theorem OwnI.by (hb : Below w.heap.size w w1) (h : OwnI w lo sv zs) : OwnI w1 lo sv zs := by
  rcases h with h | ⟨g, cap, cs, h1, h2, h3, h4, h5, h6⟩
  · exact .inl h
  · exact .inr ⟨g, cap, cs, h1, h2, h3, h4, Blk.by hb h5, h6⟩
theorem OwnI.sl (h : OwnI w lo sv zs) : IntSl w sv zs := by
  rcases h with h | ⟨g, cap, cs, h1, h2, h3, h4, h5, h6⟩
  · exact .inl h
  · exact .inr ⟨g, 0, cap, h1, h3, h4, fun i x hx => by rw [Nat.zero_add, h5.cell]; exact h6 i x hx⟩
theorem OwnI.len (h : OwnI w lo sv zs) : ∃ a c, sv = .slice a zs.length c := h.sl.len
theorem OwnI.alloc (h : OwnI w lo sv zs) (o : Obj) : OwnI (w.alloc o) lo sv zs := h.by ((Below.refl _ w).alloc (Nat.le_refl _) o)
theorem OwnI.drewN (h : OwnI w lo sv zs) (n : Nat) : OwnI (w.drewN n) lo sv zs := h.by (below_of_drewN _ n)
theorem OwnI.low (h : OwnI w lo sv zs) {lo' : Nat} (hl : lo' ≤ lo) : OwnI w lo' sv zs := by
  rcases h with h | ⟨g, cap, cs, h1, h2, h3⟩
  · exact .inl h
  · exact .inr ⟨g, cap, cs, h1, Nat.le_trans hl h2, h3⟩
theorem OwnI.apart (h : OwnI w lo sv zs) (b o : Nat) (v : Value) (hb : b < lo) : OwnI (w.setCell ⟨b, o, none⟩ v) lo sv zs := by
  rcases h with h | ⟨g, cap, cs, h1, h2, h3, h4, h5, h6⟩
  · exact .inl h
  · exact .inr ⟨g, cap, cs, h1, h2, h3, h4, h5.apart b o v (by omega), h6⟩

/-- What the second argument of an append yields. -/
theorem src_ints (h : IntSl w sv zs) : Src Tryz.prog 1 44 sv zs.length (zs.map (Value.int .i64)) w := by
  have h1 : ∀ u ∈ zs.map (Value.int .i64), u.oneCell' = true := by
    intro u hu
    obtain ⟨_, _, rfl⟩ := List.mem_map.1 hu
    rfl
  rcases h with ⟨a, c, rfl, rfl⟩ | ⟨b, off, cap, rfl, h2, h3, h4⟩
  · cases a with
    | none => exact Src.ofNil w Tryz.underlying44 c
    | some a => exact Src.ofSlice w Tryz.underlying44 a 0 c [] rfl (by simp) (by simp)
  · refine Src.ofSlice w Tryz.underlying44 _ _ _ _ (by simp) (fun j u hu => ?_) h1
    rw [List.getElem?_map] at hu
    obtain ⟨x, hx, rfl⟩ := Option.map_eq_some_iff.1 hu
    rw [Addr.add_lit]
    exact h4 j x hx

theorem clone_run (h : IntSl w sv zs) (hn : zs.length ≤ 1048576) (b : Nat) (ty : TypeId) (hlo : lo ≤ w.heap.size) :
    ∃ v w', (Builtin.append_ #[44, 44] ty #[.slice (some ⟨b, 0, none⟩) 0 0, sv]).run Tryz.prog w = .ok v w' ∧ OwnI w' lo v zs ∧ Below w.heap.size w w' := by
  obtain ⟨i0, hi, hz0, hz1, hz2⟩ := info_parts infoI
  have hS := src_ints h
  by_cases h0 : zs = []
  · subst h0
    have hr := run_append_room_src (P := Tryz.prog) w 44 44 ty 2 i0 Tryz.underlying44 hi b 0 0 0 sv 0 [] (by rw [hz1]; exact hS) (by omega) (by simp) (by simp)
    refine ⟨_, _, hr, .inl ⟨_, _, rfl, rfl⟩, ?_⟩
    exact Below.refl _ _
  · have hl : 0 < zs.length := List.length_pos_iff.2 h0
    have hr := run_append_grow_src (P := Tryz.prog) w 44 44 ty 2 i0 _ Tryz.underlying44 hi hz0 (some ⟨b, 0, none⟩) 0 0 [] (by rw [hz1]; exact run_firstCells_some w.drew 1 0 _ 0 0 [] rfl (by simp)) sv zs.length (zs.map (Value.int .i64)) (by rw [hz1]; exact hS) (by omega) (by omega)
      (by rw [hz2]; simp only [Builtin.nextslicecap, Nat.mul_zero, Nat.zero_add]; rw [if_pos (by omega)]; omega)
    refine ⟨_, _, hr, .inr ⟨w.heap.size, grownCap w (0 + zs.length) 0 2, _, by rw [Nat.zero_add], hlo, by have := grownCap_ge w (0 + zs.length) 0 2; omega, grownCap_le_maxLen _ _ _ _ (by unfold maxLen; omega), Blk.new _ rfl, ?_⟩, ((Below.refl _ _).drew).alloc (Nat.le_refl _) _⟩
    intro i x hx
    have hi := (List.getElem?_eq_some_iff.1 hx).1
    rw [Array.getElem?_append_left (by simpa using hi)]
    simp [hx]
end

/-- At a step of a region that draws its order. -/
theorem step_clone {ops : Array Oper} {o : Oper} {a : Act} {w : World} {K : Act → World → Prop} {Q : Exit → Act → World → Prop} {E : Prop} (hgd : o.guard = none) (s x : Operand)
    (ho : o.op = .call { callee := .builtin .append, args := #[s, x], argTypes := #[44, 44] })
    (b : Nat) (hs : a.eval s = .slice (some ⟨b, 0, none⟩) 0 0) (sv : Value) (zs : List Int) (hx : a.eval x = sv) (h : IntSl w sv zs) (hn : zs.length ≤ 1048576) (lo : Nat) (hlo : lo ≤ w.heap.size)
    (hK : ∀ v w', OwnI w' lo v zs → Below w.heap.size w w' → K (a.put o.dst v) w') :
    if Region.wanted o (yielded ops a.tmps) = true then Oper.wp Tryz.prog o a w K Q else E := by
  have hw : Region.wanted o (yielded ops a.tmps) = true := by simp [Region.wanted, hgd]
  rw [if_pos hw]
  obtain ⟨v, w', hr, h2, h3⟩ := clone_run h hn b o.type hlo
  unfold Oper.wp execOp
  simp only [ho, resolve, invoke, builtin, Sem.run_bind, Sem.run_pure, Result.andThen_ok, List.map_toArray, List.map_cons, List.map_nil, hs, hx, hr]
  exact hK v w' h2 h3

/-- At the list of a plain region's operations. -/
theorem list_clone {ops : Array Oper} {rest : List Oper} {o : Oper} {a : Act} {w : World} {Q : Exit → Act → World → Prop} (hgd : o.guard = none) (s x : Operand)
    (ho : o.op = .call { callee := .builtin .append, args := #[s, x], argTypes := #[44, 44] })
    (b : Nat) (hs : a.eval s = .slice (some ⟨b, 0, none⟩) 0 0) (sv : Value) (zs : List Int) (hx : a.eval x = sv) (h : IntSl w sv zs) (hn : zs.length ≤ 1048576) (lo : Nat) (hlo : lo ≤ w.heap.size)
    (hK : ∀ v w', OwnI w' lo v zs → Below w.heap.size w w' → wpList Tryz.prog ops Q rest (a.put o.dst v) w') : wpList Tryz.prog ops Q (o :: rest) a w :=
  wpList_plain hgd fun _ hK' => by
    obtain ⟨v, w', hr, h2, h3⟩ := clone_run h hn b o.type hlo
    unfold Oper.wp execOp
    simp only [ho, resolve, invoke, builtin, Sem.run_bind, Sem.run_pure, Result.andThen_ok, List.map_toArray, List.map_cons, List.map_nil, hs, hx, hr]
    exact hK' _ _ (hK v w' h2 h3)
end Go.Proofs.YtjanifoipbmkhaaGreat

/- Copies of devices. -/
namespace Go.Proofs.YtjanifoipbmkhaaGreat
open Go.RowKit
set_option linter.unusedVariables false
set_option linter.unusedSimpArgs false

set_option maxRecDepth 100000 in
set_option maxHeartbeats 1000000 in
theorem own_any (kind wd len : Int) (sv : Value) (zs : List Int) (w : World) (h : IntSl w sv zs) (hn : zs.length ≤ 1048576) :
    Calls Tryz.prog 42 #[.agg #[.int .i64 kind, sv, .int .i64 wd, .int .i64 len]] w fun e w' => ∃ v, e = .returned (.agg #[.int .i64 kind, v, .int .i64 wd, .int .i64 len]) ∧ OwnI w' w.heap.size v zs ∧ Below w.heap.size w w' := by
  obtain ⟨a, c, rfl⟩ := h.len
  go_enter Tryz.func42, Tryz.ntmps42
  go_wp2_with fail
  go_region_held_law ((fun w' => (Blk w' (w.heap.size) #[.int .i64 kind, .slice a zs.length c, .int .i64 wd, .int .i64 len] 46 ∧ ∀ o, w'.cell? ⟨w.heap.size, o, none⟩ = (#[.int .i64 kind, .slice a zs.length c, .int .i64 wd, .int .i64 len] : Array Value)[o]?) ∧ Below w.heap.size w w')) (((try (obtain ⟨⟨hS0, _⟩, hSB⟩ := hHeld)); refine ⟨Blk.both ?_, ?_⟩ <;> first | ((repeat (first | (with_reducible assumption) | (with_reducible refine Blk.drewN ?_ _) | (with_reducible refine Blk.drew ?_) | ((with_reducible refine Blk.new _ ?_); focus (first | omega | (simp; done) | (simp; omega))) | (with_reducible refine Blk.past ?_ _) | ((with_reducible refine Blk.apart ?_ _ _ _ ?_); rotate_left; focus (first | omega | (simp; done) | (simp; omega))) | (with_reducible refine Blk.by (by assumption) ?_))); done) | ((repeat (first | (with_reducible exact Below.refl _ _) | (with_reducible refine below_drewN ?_ _) | (with_reducible refine Below.drew ?_) | (with_reducible refine below_al ?_ _) | (with_reducible refine below_on (by assumption) ?_) | ((with_reducible refine Below.setCell ?_ ?_ _); rotate_left; focus (first | omega | (simp; done) | (simp; omega))) | (with_reducible assumption))); done)))
    ((refine step_clone (by rfl) _ _ (by rfl) _ (by rfl) _ zs (by rfl) (h.by (by ((repeat (first | (with_reducible exact Below.refl _ _) | (with_reducible refine below_drewN ?_ _) | (with_reducible refine Below.drew ?_) | (with_reducible refine below_al ?_ _) | (with_reducible refine below_on (by assumption) ?_) | ((with_reducible refine Below.setCell ?_ ?_ _); rotate_left; focus (first | omega | (simp; done) | (simp; omega))) | (with_reducible assumption))); done))) hn (w.heap.size + 2) (by simp; try omega) ?_; intro v w3 hO hb3; obtain ⟨a1, c1, rfl⟩ := hO.len; have k2 : Blk w3 (w.heap.size + 1) #[.int .i64 0, .slice none 0 0, .int .i64 0, .int .i64 0] 46 := (by ((repeat (first | (with_reducible assumption) | (with_reducible refine Blk.drewN ?_ _) | (with_reducible refine Blk.drew ?_) | ((with_reducible refine Blk.new _ ?_); focus (first | omega | (simp; done) | (simp; omega))) | (with_reducible refine Blk.past ?_ _) | ((with_reducible refine Blk.apart ?_ _ _ _ ?_); rotate_left; focus (first | omega | (simp; done) | (simp; omega))) | (with_reducible refine Blk.by (by assumption) ?_))); done)); have c2 := k2.cell; have f2 := k2.free; have l2 := k2.lt))
  go_wp2
  refine bodyPost_ret (v := .agg #[.int .i64 kind, .slice a1 zs.length c1, .int .i64 wd, .int .i64 len]) (by simp [results, Tryz.results42, go_sem, *]) rfl ⟨_, rfl, ?_, (by ((repeat (first | (with_reducible exact Below.refl _ _) | (with_reducible refine below_drewN ?_ _) | (with_reducible refine Below.drew ?_) | (with_reducible refine below_al ?_ _) | (with_reducible refine below_on (by assumption) ?_) | ((with_reducible refine Below.setCell ?_ ?_ _); rotate_left; focus (first | omega | (simp; done) | (simp; omega))) | (with_reducible assumption))); done))⟩
  refine OwnI.low ?_ (show w.heap.size ≤ w.heap.size + 2 by omega)
  repeat (first | (with_reducible exact hO) | ((with_reducible refine OwnI.apart ?_ _ _ _ ?_); rotate_left; focus omega))

set_option maxRecDepth 100000 in
set_option maxHeartbeats 1000000 in
theorem clone_any (sv : Value) (zs : List Int) (w : World) (h : IntSl w sv zs) (hn : zs.length ≤ 1048576) :
    Calls Tryz.prog 91 #[sv] w fun e w' => ∃ v, e = .returned v ∧ OwnI w' w.heap.size v zs ∧ Below w.heap.size w w' := by
  obtain ⟨a, c, rfl⟩ := h.len
  have q22 : ∀ (w : World) (a : Option Addr) (n c n' c' : Nat), (binOp .eql 44 (.slice a n c) (.slice none n' c')).run Tryz.prog w = .ok (.bool a.isNone) w := fun w a n c n' c' => Lib.run_eql_slice_nil w _ _ a n c n' c' Tryz.underlying44
  cases a with
  | none =>
    have hz : zs = [] := by
      rcases h with ⟨_, _, _, h2⟩ | ⟨b, off, cap, h1, _⟩
      · exact h2
      · simp at h1
    subst hz
    go_enter Tryz.func91, Tryz.ntmps91
    go_wp2
    refine bodyPost_ret (v := .slice none 0 0) (by simp [results, Tryz.results91, go_sem, *]) rfl ⟨_, rfl, .inl ⟨_, _, rfl, rfl⟩, (by ((repeat (first | (with_reducible exact Below.refl _ _) | (with_reducible refine below_drewN ?_ _) | (with_reducible refine Below.drew ?_) | (with_reducible refine below_al ?_ _) | (with_reducible refine below_on (by assumption) ?_) | ((with_reducible refine Below.setCell ?_ ?_ _); rotate_left; focus (first | omega | (simp; done) | (simp; omega))) | (with_reducible assumption))); done))⟩
  | some ad =>
    go_enter Tryz.func91, Tryz.ntmps91
    go_wp2_with ((refine list_clone (by rfl) _ _ (by rfl) _ (by rfl) _ zs (by rfl) (h.by (by ((repeat (first | (with_reducible exact Below.refl _ _) | (with_reducible refine below_drewN ?_ _) | (with_reducible refine Below.drew ?_) | (with_reducible refine below_al ?_ _) | (with_reducible refine below_on (by assumption) ?_) | ((with_reducible refine Below.setCell ?_ ?_ _); rotate_left; focus (first | omega | (simp; done) | (simp; omega))) | (with_reducible assumption))); done))) hn w.heap.size (by simp; try omega) ?_; intro v w3 hO hb3; obtain ⟨a1, c1, rfl⟩ := hO.len))
    refine bodyPost_ret (v := .slice a1 zs.length c1) (by simp [results, Tryz.results91, go_sem, *]) rfl ⟨_, rfl, hO, (by ((repeat (first | (with_reducible exact Below.refl _ _) | (with_reducible refine below_drewN ?_ _) | (with_reducible refine Below.drew ?_) | (with_reducible refine below_al ?_ _) | (with_reducible refine below_on (by assumption) ?_) | ((with_reducible refine Below.setCell ?_ ?_ _); rotate_left; focus (first | omega | (simp; done) | (simp; omega))) | (with_reducible assumption))); done))⟩

set_option maxRecDepth 100000 in
set_option maxHeartbeats 1000000 in
theorem copyDevice_any (kind wd len : Int) (sv : Value) (zs : List Int) (w : World) (h : IntSl w sv zs) (hn : zs.length ≤ 1048576) :
    Calls Tryz.prog 60 #[.agg #[.int .i64 kind, sv, .int .i64 wd, .int .i64 len]] w fun e w' => ∃ v, e = .returned (.agg #[.int .i64 kind, v, .int .i64 wd, .int .i64 len]) ∧ OwnI w' w.heap.size v zs ∧ Below w.heap.size w w' := by
  have HC := Lib.hid (fun w h => clone_any sv zs w h hn)
  have h1 := h.by (((Below.refl _ w).alloc (Nat.le_refl _) (.cells #[.int .i64 kind, sv, .int .i64 wd, .int .i64 len] 46)).alloc (by simp) (.cells #[.int .i64 0, .slice none 0 0, .int .i64 0, .int .i64 0] 46))
  obtain ⟨a, c, rfl⟩ := h.len
  clear h
  go_enter Tryz.func60, Tryz.ntmps60
  go_wp2_with fail
  refine (HC.out _ h1).mono ?_
  rintro e w1 ⟨v, rfl, hO, hb1⟩
  clear h1
  have k0 : Blk w1 w.heap.size #[.int .i64 kind, .slice a zs.length c, .int .i64 wd, .int .i64 len] 46 := (by ((repeat (first | (with_reducible assumption) | (with_reducible refine Blk.drewN ?_ _) | (with_reducible refine Blk.drew ?_) | ((with_reducible refine Blk.new _ ?_); focus (first | omega | (simp; done) | (simp; omega))) | (with_reducible refine Blk.past ?_ _) | ((with_reducible refine Blk.apart ?_ _ _ _ ?_); rotate_left; focus (first | omega | (simp; done) | (simp; omega))) | (with_reducible refine Blk.by (by assumption) ?_))); done))
  have k1 : Blk w1 (w.heap.size + 1) #[.int .i64 0, .slice none 0 0, .int .i64 0, .int .i64 0] 46 := (by ((repeat (first | (with_reducible assumption) | (with_reducible refine Blk.drewN ?_ _) | (with_reducible refine Blk.drew ?_) | ((with_reducible refine Blk.new _ ?_); focus (first | omega | (simp; done) | (simp; omega))) | (with_reducible refine Blk.past ?_ _) | ((with_reducible refine Blk.apart ?_ _ _ _ ?_); rotate_left; focus (first | omega | (simp; done) | (simp; omega))) | (with_reducible refine Blk.by (by assumption) ?_))); done))
  have c0 := k0.cell
  have f0 := k0.free
  have l0 := k0.lt
  have c1 := k1.cell
  have f1 := k1.free
  have l1 := k1.lt
  obtain ⟨a1, c1, rfl⟩ := hO.len
  simp at hO
  go_wp2
  refine bodyPost_ret (v := .agg #[.int .i64 kind, .slice a1 zs.length c1, .int .i64 wd, .int .i64 len]) (by simp [results, Tryz.results60, go_sem, *]) rfl ⟨_, rfl, ?_, (by ((repeat (first | (with_reducible exact Below.refl _ _) | (with_reducible refine below_drewN ?_ _) | (with_reducible refine Below.drew ?_) | (with_reducible refine below_al ?_ _) | (with_reducible refine below_on (by assumption) ?_) | ((with_reducible refine Below.setCell ?_ ?_ _); rotate_left; focus (first | omega | (simp; done) | (simp; omega))) | (with_reducible assumption))); done))⟩
  refine OwnI.low ?_ (show w.heap.size ≤ w.heap.size + 2 by omega)
  repeat (first | (with_reducible exact hO) | ((with_reducible refine OwnI.apart ?_ _ _ _ ?_); rotate_left; focus omega))
end Go.Proofs.YtjanifoipbmkhaaGreat

/- The shape of a device. -/
namespace Go.Proofs.YtjanifoipbmkhaaGreat
open Go.RowKit
set_option linter.unusedVariables false
set_option linter.unusedSimpArgs false

/-- The number of pins of a kind. -/
def pinc (kind : Int) : Int := if kind = 0 then 3 else if kind = 1 then 3 else if kind = 2 then 2 else 0

theorem pinCount_any (kind : Int) (w : World) : Calls Tryz.prog 70 #[.int .i64 kind] w fun e w' => e = .returned (.int .i64 (pinc kind)) ∧ w = w' := by
  obtain ⟨r, hr⟩ : ∃ r, pinc kind = r := ⟨_, rfl⟩
  rw [hr]
  have HR := Lib.hid hr
  clear hr
  by_cases h0 : kind = 0
  · subst h0
    go_enter Tryz.func70, Tryz.ntmps70
    go_wp2
    go_ret
    exact ⟨ret_i64 (by rw [← HR.out]; rfl), rfl⟩
  by_cases h1 : kind = 1
  · subst h1
    go_enter Tryz.func70, Tryz.ntmps70
    go_wp2
    go_ret
    exact ⟨ret_i64 (by rw [← HR.out]; rfl), rfl⟩
  by_cases h2 : kind = 2
  · subst h2
    go_enter Tryz.func70, Tryz.ntmps70
    go_wp2
    go_ret
    exact ⟨ret_i64 (by rw [← HR.out]; rfl), rfl⟩
  go_enter Tryz.func70, Tryz.ntmps70
  go_wp2
  go_ret
  exact ⟨ret_i64 (by rw [← HR.out, pinc, if_neg h0, if_neg h1, if_neg h2]), rfl⟩

set_option maxRecDepth 100000 in
set_option maxHeartbeats 1000000 in
theorem l28Shape_any (kind wd len : Int) (a : Option Addr) (n c : Nat) (hn : n ≤ 1048576) (w : World) : Calls Tryz.prog 46 #[.agg #[.int .i64 kind, .slice a n c, .int .i64 wd, .int .i64 len]] w fun e w' => e = .returned (.bool (decide (0 < pinc kind ∧ (n : Int) = pinc kind))) ∧ Below w.heap.size w w' := by
  obtain ⟨r, hr⟩ : ∃ r, decide (0 < pinc kind ∧ (n : Int) = pinc kind) = r := ⟨_, rfl⟩
  rw [hr]
  have HR := Lib.hid hr
  clear hr
  by_cases h0 : kind = 0
  · subst h0
    go_enter Tryz.func46, Tryz.ntmps46
    go_wp2
    go_ret
    exact ⟨ret_bool (by rw [← HR.out]; simp [pinc]; rfl), (by ((repeat (first | (with_reducible exact Below.refl _ _) | (with_reducible refine below_drewN ?_ _) | (with_reducible refine Below.drew ?_) | (with_reducible refine below_al ?_ _) | (with_reducible refine below_on (by assumption) ?_) | ((with_reducible refine Below.setCell ?_ ?_ _); rotate_left; focus (first | omega | (simp; done) | (simp; omega))) | (with_reducible assumption))); done))⟩
  by_cases h1 : kind = 1
  · subst h1
    go_enter Tryz.func46, Tryz.ntmps46
    go_wp2
    go_ret
    exact ⟨ret_bool (by rw [← HR.out]; simp [pinc]; rfl), (by ((repeat (first | (with_reducible exact Below.refl _ _) | (with_reducible refine below_drewN ?_ _) | (with_reducible refine Below.drew ?_) | (with_reducible refine below_al ?_ _) | (with_reducible refine below_on (by assumption) ?_) | ((with_reducible refine Below.setCell ?_ ?_ _); rotate_left; focus (first | omega | (simp; done) | (simp; omega))) | (with_reducible assumption))); done))⟩
  by_cases h2 : kind = 2
  · subst h2
    go_enter Tryz.func46, Tryz.ntmps46
    go_wp2
    go_ret
    exact ⟨ret_bool (by rw [← HR.out]; simp [pinc]; rfl), (by ((repeat (first | (with_reducible exact Below.refl _ _) | (with_reducible refine below_drewN ?_ _) | (with_reducible refine Below.drew ?_) | (with_reducible refine below_al ?_ _) | (with_reducible refine below_on (by assumption) ?_) | ((with_reducible refine Below.setCell ?_ ?_ _); rotate_left; focus (first | omega | (simp; done) | (simp; omega))) | (with_reducible assumption))); done))⟩
  go_enter Tryz.func46, Tryz.ntmps46
  go_wp2
  go_ret
  exact ⟨ret_bool (by rw [← HR.out, pinc, if_neg h0, if_neg h1, if_neg h2]; simp), (by ((repeat (first | (with_reducible exact Below.refl _ _) | (with_reducible refine below_drewN ?_ _) | (with_reducible refine Below.drew ?_) | (with_reducible refine below_al ?_ _) | (with_reducible refine below_on (by assumption) ?_) | ((with_reducible refine Below.setCell ?_ ?_ _); rotate_left; focus (first | omega | (simp; done) | (simp; omega))) | (with_reducible assumption))); done))⟩

set_option maxRecDepth 100000 in
theorem l28First_any (kind wd len : Int) (a : Option Addr) (k c : Nat) (hn : k ≤ 1048576) (w : World) : Calls Tryz.prog 47 #[.agg #[.int .i64 kind, .slice a (k + 2) c, .int .i64 wd, .int .i64 len]] w fun e w' => e = .returned (.int .i64 k) ∧ Below w.heap.size w w' := by
  go_enter Tryz.func47, Tryz.ntmps47
  go_wp2
  go_ret
  exact ⟨ret_i64 (by omega), (by ((repeat (first | (with_reducible exact Below.refl _ _) | (with_reducible refine below_drewN ?_ _) | (with_reducible refine Below.drew ?_) | (with_reducible refine below_al ?_ _) | (with_reducible refine below_on (by assumption) ?_) | ((with_reducible refine Below.setCell ?_ ?_ _); rotate_left; focus (first | omega | (simp; done) | (simp; omega))) | (with_reducible assumption))); done))⟩
end Go.Proofs.YtjanifoipbmkhaaGreat

/- The reference's NormalizeDevice. -/
namespace Go.Proofs.YtjanifoipbmkhaaGreat
open Go.RowKit
set_option linter.unusedVariables false
set_option linter.unusedSimpArgs false

/-- The last two in order. -/
def lastTwo : List Int → List Int
  | [p, q] => [min p q, max p q]
  | [g, p, q] => [g, min p q, max p q]
  | zs => zs
def normz (kind : Int) (zs : List Int) : List Int := if 0 < pinc kind ∧ (zs.length : Int) = pinc kind then lastTwo zs else zs

set_option maxRecDepth 100000 in
set_option maxHeartbeats 2000000 in
theorem specNorm_no (kind wd len : Int) (sv : Value) (zs : List Int) (w : World) (h : IntSl w sv zs) (hn : zs.length ≤ 1048576) (hno : ¬ (0 < pinc kind ∧ (zs.length : Int) = pinc kind)) :
    Calls Tryz.prog 17 #[.agg #[.int .i64 kind, sv, .int .i64 wd, .int .i64 len]] w fun e w' => ∃ v, e = .returned (.agg #[.int .i64 kind, v, .int .i64 wd, .int .i64 len]) ∧ OwnI w' w.heap.size v zs ∧ Below w.heap.size w w' := by
  have HO := Lib.hid (fun w h => own_any kind wd len sv zs w h hn)
  have h1 := h.by (((Below.refl _ w).alloc (Nat.le_refl _) (.cells #[.int .i64 kind, sv, .int .i64 wd, .int .i64 len] 46)).alloc (by simp) (.cells #[.int .i64 0, .slice none 0 0, .int .i64 0, .int .i64 0] 46))
  obtain ⟨a, c, rfl⟩ := h.len
  clear h
  have HS := Lib.hid (fun w => by have := l28Shape_any kind wd len a zs.length c hn w; rwa [decide_eq_false hno] at this)
  clear hno
  go_enter Tryz.func17, Tryz.ntmps17
  go_wp2_with fail
  refine (HO.out _ h1).mono ?_
  rintro e w1 ⟨v, rfl, hO, hb1⟩
  clear h1
  have k0 : Blk w1 w.heap.size #[.int .i64 kind, .slice a zs.length c, .int .i64 wd, .int .i64 len] 46 := (by ((repeat (first | (with_reducible assumption) | (with_reducible refine Blk.drewN ?_ _) | (with_reducible refine Blk.drew ?_) | ((with_reducible refine Blk.new _ ?_); focus (first | omega | (simp; done) | (simp; omega))) | (with_reducible refine Blk.past ?_ _) | ((with_reducible refine Blk.apart ?_ _ _ _ ?_); rotate_left; focus (first | omega | (simp; done) | (simp; omega))) | (with_reducible refine Blk.by (by assumption) ?_))); done))
  have k1 : Blk w1 (w.heap.size + 1) #[.int .i64 0, .slice none 0 0, .int .i64 0, .int .i64 0] 46 := (by ((repeat (first | (with_reducible assumption) | (with_reducible refine Blk.drewN ?_ _) | (with_reducible refine Blk.drew ?_) | ((with_reducible refine Blk.new _ ?_); focus (first | omega | (simp; done) | (simp; omega))) | (with_reducible refine Blk.past ?_ _) | ((with_reducible refine Blk.apart ?_ _ _ _ ?_); rotate_left; focus (first | omega | (simp; done) | (simp; omega))) | (with_reducible refine Blk.by (by assumption) ?_))); done))
  have hW : Below w.heap.size w w1 := (by ((repeat (first | (with_reducible exact Below.refl _ _) | (with_reducible refine below_drewN ?_ _) | (with_reducible refine Below.drew ?_) | (with_reducible refine below_al ?_ _) | (with_reducible refine below_on (by assumption) ?_) | ((with_reducible refine Below.setCell ?_ ?_ _); rotate_left; focus (first | omega | (simp; done) | (simp; omega))) | (with_reducible assumption))); done))
  clear hb1
  have c0 := k0.cell
  have f0 := k0.free
  have l0 := k0.lt
  have c1' := k1.cell
  have f1 := k1.free
  have l1 := k1.lt
  obtain ⟨a1, c1, rfl⟩ := hO.len
  simp at hO
  go_wp2_with fail
  refine (HS.out _).mono ?_
  rintro e w2 ⟨rfl, hb2⟩
  replace hO := (hO.alloc (.cells #[.int .i64 kind, .slice a1 zs.length c1, .int .i64 wd, .int .i64 len] 46)).by hb2
  have k3 : Blk w2 w1.heap.size #[.int .i64 kind, .slice a1 zs.length c1, .int .i64 wd, .int .i64 len] 46 := (by ((repeat (first | (with_reducible assumption) | (with_reducible refine Blk.drewN ?_ _) | (with_reducible refine Blk.drew ?_) | ((with_reducible refine Blk.new _ ?_); focus (first | omega | (simp; done) | (simp; omega))) | (with_reducible refine Blk.past ?_ _) | ((with_reducible refine Blk.apart ?_ _ _ _ ?_); rotate_left; focus (first | omega | (simp; done) | (simp; omega))) | (with_reducible refine Blk.by (by assumption) ?_))); done))
  have k4 : Blk w2 w.heap.size #[.int .i64 kind, .slice a zs.length c, .int .i64 wd, .int .i64 len] 46 := (by ((repeat (first | (with_reducible assumption) | (with_reducible refine Blk.drewN ?_ _) | (with_reducible refine Blk.drew ?_) | ((with_reducible refine Blk.new _ ?_); focus (first | omega | (simp; done) | (simp; omega))) | (with_reducible refine Blk.past ?_ _) | ((with_reducible refine Blk.apart ?_ _ _ _ ?_); rotate_left; focus (first | omega | (simp; done) | (simp; omega))) | (with_reducible refine Blk.by (by assumption) ?_))); done))
  have k5 : Blk w2 (w.heap.size + 1) #[.int .i64 0, .slice none 0 0, .int .i64 0, .int .i64 0] 46 := (by ((repeat (first | (with_reducible assumption) | (with_reducible refine Blk.drewN ?_ _) | (with_reducible refine Blk.drew ?_) | ((with_reducible refine Blk.new _ ?_); focus (first | omega | (simp; done) | (simp; omega))) | (with_reducible refine Blk.past ?_ _) | ((with_reducible refine Blk.apart ?_ _ _ _ ?_); rotate_left; focus (first | omega | (simp; done) | (simp; omega))) | (with_reducible refine Blk.by (by assumption) ?_))); done))
  have hW2 : Below w.heap.size w w2 := below_on hb2 (below_al hW _)
  clear c0 f0 l0 c1' f1 k0 k1 hb2 hW
  generalize w1.heap.size = px at *
  have c0 := k4.cell
  have c1' := k5.cell
  have f1 := k5.free
  have c2 := k3.cell
  have f2 := k3.free
  go_wp2
  refine bodyPost_ret (v := .agg #[.int .i64 kind, .slice a1 zs.length c1, .int .i64 wd, .int .i64 len]) (by simp [results, Tryz.results17, go_sem, *]) rfl ⟨_, rfl, ?_, (by ((repeat (first | (with_reducible exact Below.refl _ _) | (with_reducible refine below_drewN ?_ _) | (with_reducible refine Below.drew ?_) | (with_reducible refine below_al ?_ _) | (with_reducible refine below_on (by assumption) ?_) | ((with_reducible refine Below.setCell ?_ ?_ _); rotate_left; focus (first | omega | (simp; done) | (simp; omega))) | (with_reducible assumption))); done))⟩
  refine OwnI.low ?_ (show w.heap.size ≤ w.heap.size + 2 by omega)
  repeat (first | (with_reducible exact hO) | ((with_reducible refine OwnI.apart ?_ _ _ _ ?_); rotate_left; focus omega))
end Go.Proofs.YtjanifoipbmkhaaGreat

/- The reference's NormalizeDevice: the last two in order. -/
namespace Go.Proofs.YtjanifoipbmkhaaGreat
open Go.RowKit
set_option linter.unusedVariables false
set_option linter.unusedSimpArgs false

set_option maxRecDepth 100000 in
set_option maxHeartbeats 4000000 in
theorem specNorm_two (kind wd len : Int) (sv : Value) (p q : Int) (w : World) (h : IntSl w sv [p, q]) (hk : pinc kind = 2) :
    Calls Tryz.prog 17 #[.agg #[.int .i64 kind, sv, .int .i64 wd, .int .i64 len]] w fun e w' => ∃ v, e = .returned (.agg #[.int .i64 kind, v, .int .i64 wd, .int .i64 len]) ∧ OwnI w' w.heap.size v [min p q, max p q] ∧ Below w.heap.size w w' := by
  have HO := Lib.hid (fun w h => own_any kind wd len sv [p, q] w h (by simp))
  have h1 := h.by (((Below.refl _ w).alloc (Nat.le_refl _) (.cells #[.int .i64 kind, sv, .int .i64 wd, .int .i64 len] 46)).alloc (by simp) (.cells #[.int .i64 0, .slice none 0 0, .int .i64 0, .int .i64 0] 46))
  rcases h with ⟨_, _, _, h2⟩ | ⟨b, off, cap, hsv, h2, h3, h4⟩
  · simp at h2
  simp only [List.length_cons, List.length_nil, Nat.zero_add, Nat.reduceAdd] at hsv h2
  subst hsv
  have hp : w.cell? ⟨b, off, none⟩ = some (.int .i64 p) := by have := h4 0 p rfl; simpa using this
  have hq : w.cell? ⟨b, off + 1, none⟩ = some (.int .i64 q) := by have := h4 1 q rfl; simpa using this
  have hbl : b < w.heap.size := by
    rcases Nat.lt_or_ge b w.heap.size with h' | h'
    · exact h'
    · simp [World.cell?, Array.getElem?_eq_none h'] at hp
  clear h4
  have HS := Lib.hid (fun w => by have := l28Shape_any kind wd len (some ⟨b, off, none⟩) 2 cap (by omega) w; rwa [decide_eq_true (by rw [hk]; simp)] at this)
  have HF := Lib.hid (fun w => l28First_any kind wd len (some ⟨b, off, none⟩) 0 cap (by omega) w)
  clear hk
  go_enter Tryz.func17, Tryz.ntmps17
  go_wp2_with fail
  refine (HO.out _ h1).mono ?_
  rintro e w1 ⟨v, rfl, hO, hb1⟩
  clear h1
  have k0 : Blk w1 w.heap.size #[.int .i64 kind, .slice (some ⟨b, off, none⟩) 2 cap, .int .i64 wd, .int .i64 len] 46 := (by ((repeat (first | (with_reducible assumption) | (with_reducible refine Blk.drewN ?_ _) | (with_reducible refine Blk.drew ?_) | ((with_reducible refine Blk.new _ ?_); focus (first | omega | (simp; done) | (simp; omega))) | (with_reducible refine Blk.past ?_ _) | ((with_reducible refine Blk.apart ?_ _ _ _ ?_); rotate_left; focus (first | omega | (simp; done) | (simp; omega))) | (with_reducible refine Blk.by (by assumption) ?_))); done))
  have k1 : Blk w1 (w.heap.size + 1) #[.int .i64 0, .slice none 0 0, .int .i64 0, .int .i64 0] 46 := (by ((repeat (first | (with_reducible assumption) | (with_reducible refine Blk.drewN ?_ _) | (with_reducible refine Blk.drew ?_) | ((with_reducible refine Blk.new _ ?_); focus (first | omega | (simp; done) | (simp; omega))) | (with_reducible refine Blk.past ?_ _) | ((with_reducible refine Blk.apart ?_ _ _ _ ?_); rotate_left; focus (first | omega | (simp; done) | (simp; omega))) | (with_reducible refine Blk.by (by assumption) ?_))); done))
  have hW : Below w.heap.size w w1 := (by ((repeat (first | (with_reducible exact Below.refl _ _) | (with_reducible refine below_drewN ?_ _) | (with_reducible refine Below.drew ?_) | (with_reducible refine below_al ?_ _) | (with_reducible refine below_on (by assumption) ?_) | ((with_reducible refine Below.setCell ?_ ?_ _); rotate_left; focus (first | omega | (simp; done) | (simp; omega))) | (with_reducible assumption))); done))
  clear hb1
  have c0 := k0.cell
  have f0 := k0.free
  have l0 := k0.lt
  have c1' := k1.cell
  have f1 := k1.free
  have l1 := k1.lt
  rcases hO with ⟨_, _, _, hO⟩ | ⟨g, cap1, cs, hv, hlo, hcap, hmax, hG, hG'⟩
  · simp at hO
  simp only [List.length_cons, List.length_nil, Nat.zero_add, Nat.reduceAdd] at hv hcap
  subst hv
  simp at hlo
  have hgp := hG.lt
  go_wp2_with fail
  refine (HS.out _).mono ?_
  rintro e w2 ⟨rfl, hb2⟩
  replace hG := Blk.by hb2 (hG.past (.cells #[.int .i64 kind, .slice (some ⟨g, 0, none⟩) 2 cap1, .int .i64 wd, .int .i64 len] 46))
  have k3 : Blk w2 w1.heap.size #[.int .i64 kind, .slice (some ⟨g, 0, none⟩) 2 cap1, .int .i64 wd, .int .i64 len] 46 := (by ((repeat (first | (with_reducible assumption) | (with_reducible refine Blk.drewN ?_ _) | (with_reducible refine Blk.drew ?_) | ((with_reducible refine Blk.new _ ?_); focus (first | omega | (simp; done) | (simp; omega))) | (with_reducible refine Blk.past ?_ _) | ((with_reducible refine Blk.apart ?_ _ _ _ ?_); rotate_left; focus (first | omega | (simp; done) | (simp; omega))) | (with_reducible refine Blk.by (by assumption) ?_))); done))
  have k4 : Blk w2 w.heap.size #[.int .i64 kind, .slice (some ⟨b, off, none⟩) 2 cap, .int .i64 wd, .int .i64 len] 46 := (by ((repeat (first | (with_reducible assumption) | (with_reducible refine Blk.drewN ?_ _) | (with_reducible refine Blk.drew ?_) | ((with_reducible refine Blk.new _ ?_); focus (first | omega | (simp; done) | (simp; omega))) | (with_reducible refine Blk.past ?_ _) | ((with_reducible refine Blk.apart ?_ _ _ _ ?_); rotate_left; focus (first | omega | (simp; done) | (simp; omega))) | (with_reducible refine Blk.by (by assumption) ?_))); done))
  have k5 : Blk w2 (w.heap.size + 1) #[.int .i64 0, .slice none 0 0, .int .i64 0, .int .i64 0] 46 := (by ((repeat (first | (with_reducible assumption) | (with_reducible refine Blk.drewN ?_ _) | (with_reducible refine Blk.drew ?_) | ((with_reducible refine Blk.new _ ?_); focus (first | omega | (simp; done) | (simp; omega))) | (with_reducible refine Blk.past ?_ _) | ((with_reducible refine Blk.apart ?_ _ _ _ ?_); rotate_left; focus (first | omega | (simp; done) | (simp; omega))) | (with_reducible refine Blk.by (by assumption) ?_))); done))
  have hW2 : Below w.heap.size w w2 := below_on hb2 (below_al hW _)
  clear c0 f0 l0 c1' f1 k0 k1 hb2 hW
  generalize w1.heap.size = px at *
  have c0 := k4.cell
  have c1' := k5.cell
  have f1 := k5.free
  have c2 := k3.cell
  have f2 := k3.free
  go_wp2_with fail
  refine (HF.out _).mono ?_
  rintro e w3 ⟨rfl, hb3⟩
  clear c0 c1' f1 c2 f2
  replace hG := Blk.by hb3 hG
  replace k3 := Blk.by hb3 k3
  replace k4 := Blk.by hb3 k4
  replace k5 := Blk.by hb3 k5
  replace hW2 := below_on hb3 hW2
  clear hb3
  have c0 := k4.cell
  have c1' := k5.cell
  have f1 := k5.free
  have c2 := k3.cell
  have f2 := k3.free
  have cp := cell_by' hW2 hp
  have cq := cell_by' hW2 hq
  have hG0 := hG' 0 p rfl
  have hG1 := hG' 1 q rfl
  have cg := hG.cell
  have fg := hG.free
  have wr1 : IntKind.i64.wrap 1 = 1 := by decide
  have wr2 : IntKind.i64.wrap 2 = 2 := by decide
  go_wp2_with fail
  go_region_held3 (fun w' => (Blk w' (w.heap.size) #[.int .i64 kind, .slice (some ⟨b, off, none⟩) 2 cap, .int .i64 wd, .int .i64 len] 46 ∧ ∀ o, w'.cell? ⟨w.heap.size, o, none⟩ = (#[.int .i64 kind, .slice (some ⟨b, off, none⟩) 2 cap, .int .i64 wd, .int .i64 len] : Array Value)[o]?) ∧ (Blk w' (px) #[.int .i64 kind, .slice (some ⟨g, 0, none⟩) 2 cap1, .int .i64 wd, .int .i64 len] 46 ∧ ∀ o, w'.cell? ⟨px, o, none⟩ = (#[.int .i64 kind, .slice (some ⟨g, 0, none⟩) 2 cap1, .int .i64 wd, .int .i64 len] : Array Value)[o]?) ∧ w'.cell? ⟨b, off, none⟩ = some (.int .i64 p) ∧ w'.cell? ⟨b, off + 1, none⟩ = some (.int .i64 q) ∧ Below w.heap.size w w') (((try (obtain ⟨⟨hS0, _⟩, ⟨hS1, _⟩, _, _, hSB⟩ := hHeld)); refine ⟨Blk.both ?_, Blk.both ?_, cell_by' ?_ hp, cell_by' ?_ hq, ?_⟩ <;> first | ((repeat (first | (with_reducible assumption) | (with_reducible refine Blk.drewN ?_ _) | (with_reducible refine Blk.drew ?_) | ((with_reducible refine Blk.new _ ?_); focus (first | omega | (simp; done) | (simp; omega))) | (with_reducible refine Blk.past ?_ _) | ((with_reducible refine Blk.apart ?_ _ _ _ ?_); rotate_left; focus (first | omega | (simp; done) | (simp; omega))) | (with_reducible refine Blk.by (by assumption) ?_))); done) | ((repeat (first | (with_reducible exact Below.refl _ _) | (with_reducible refine below_drewN ?_ _) | (with_reducible refine Below.drew ?_) | (with_reducible refine below_al ?_ _) | (with_reducible refine below_on (by assumption) ?_) | ((with_reducible refine Below.setCell ?_ ?_ _); rotate_left; focus (first | omega | (simp; done) | (simp; omega))) | (with_reducible assumption))); done))) (fail)
  replace hG := (hG.set 0 (.int .i64 (if q < p then q else p))).drew
  replace k3 := (k3.apart g 0 (.int .i64 (if q < p then q else p)) (by omega)).drew
  replace k4 := (k4.apart g 0 (.int .i64 (if q < p then q else p)) (by omega)).drew
  replace k5 := (k5.apart g 0 (.int .i64 (if q < p then q else p)) (by omega)).drew
  replace hW2 : Below w.heap.size w (w3.setCell ⟨g, 0, none⟩ (.int .i64 (if q < p then q else p))).drew := (by ((repeat (first | (with_reducible exact Below.refl _ _) | (with_reducible refine below_drewN ?_ _) | (with_reducible refine Below.drew ?_) | (with_reducible refine below_al ?_ _) | (with_reducible refine below_on (by assumption) ?_) | ((with_reducible refine Below.setCell ?_ ?_ _); rotate_left; focus (first | omega | (simp; done) | (simp; omega))) | (with_reducible assumption))); done))
  clear c0 c1' f1 c2 f2 cp cq cg fg
  have hz1 : 0 < cs.size := by rcases Nat.lt_or_ge 0 cs.size with h | h; exact h; (rw [Array.getElem?_eq_none h] at hG0; cases hG0)
  have hz2 : 1 < cs.size := by rcases Nat.lt_or_ge 1 cs.size with h | h; exact h; (rw [Array.getElem?_eq_none h] at hG1; cases hG1)
  have c0 := k4.cell
  have c1' := k5.cell
  have f1 := k5.free
  have c2 := k3.cell
  have f2 := k3.free
  have cp := cell_by' hW2 hp
  have cq := cell_by' hW2 hq
  have cg := hG.cell
  have fg := hG.free
  have hG1 : (cs.setIfInBounds 0 (Value.int .i64 (if q < p then q else p)))[1]? = some (.int .i64 q) := by rw [Array.getElem?_setIfInBounds_ne (by omega)]; exact hG1
  have hMn : (cs.setIfInBounds 0 (Value.int .i64 (if q < p then q else p)))[0]? = some (.int .i64 (if q < p then q else p)) := by rw [Array.getElem?_setIfInBounds_self_of_lt hz1]
  skip
  replace hz2 : 1 < (cs.setIfInBounds 0 (Value.int .i64 (if q < p then q else p))).size := by rw [Array.size_setIfInBounds]; exact hz2
  clear hz1 hG0 hG'
  generalize hm : (if q < p then q else p) = mn at *
  generalize cs.setIfInBounds 0 (Value.int .i64 mn) = cs2 at *
  generalize (w3.setCell ⟨g, 0, none⟩ (.int .i64 mn)).drew = w4 at *
  go_wp2_with fail
  go_region_held3 (fun w' => (Blk w' (w.heap.size) #[.int .i64 kind, .slice (some ⟨b, off, none⟩) 2 cap, .int .i64 wd, .int .i64 len] 46 ∧ ∀ o, w'.cell? ⟨w.heap.size, o, none⟩ = (#[.int .i64 kind, .slice (some ⟨b, off, none⟩) 2 cap, .int .i64 wd, .int .i64 len] : Array Value)[o]?) ∧ (Blk w' (px) #[.int .i64 kind, .slice (some ⟨g, 0, none⟩) 2 cap1, .int .i64 wd, .int .i64 len] 46 ∧ ∀ o, w'.cell? ⟨px, o, none⟩ = (#[.int .i64 kind, .slice (some ⟨g, 0, none⟩) 2 cap1, .int .i64 wd, .int .i64 len] : Array Value)[o]?) ∧ w'.cell? ⟨b, off, none⟩ = some (.int .i64 p) ∧ w'.cell? ⟨b, off + 1, none⟩ = some (.int .i64 q) ∧ Below w.heap.size w w') (((try (obtain ⟨⟨hS0, _⟩, ⟨hS1, _⟩, _, _, hSB⟩ := hHeld)); refine ⟨Blk.both ?_, Blk.both ?_, cell_by' ?_ hp, cell_by' ?_ hq, ?_⟩ <;> first | ((repeat (first | (with_reducible assumption) | (with_reducible refine Blk.drewN ?_ _) | (with_reducible refine Blk.drew ?_) | ((with_reducible refine Blk.new _ ?_); focus (first | omega | (simp; done) | (simp; omega))) | (with_reducible refine Blk.past ?_ _) | ((with_reducible refine Blk.apart ?_ _ _ _ ?_); rotate_left; focus (first | omega | (simp; done) | (simp; omega))) | (with_reducible refine Blk.by (by assumption) ?_))); done) | ((repeat (first | (with_reducible exact Below.refl _ _) | (with_reducible refine below_drewN ?_ _) | (with_reducible refine Below.drew ?_) | (with_reducible refine below_al ?_ _) | (with_reducible refine below_on (by assumption) ?_) | ((with_reducible refine Below.setCell ?_ ?_ _); rotate_left; focus (first | omega | (simp; done) | (simp; omega))) | (with_reducible assumption))); done))) (fail)
  replace hG := (hG.set 1 (.int .i64 (if p < q then q else p))).drew
  replace k3 := (k3.apart g 1 (.int .i64 (if p < q then q else p)) (by omega)).drew
  replace k5 := (k5.apart g 1 (.int .i64 (if p < q then q else p)) (by omega)).drew
  replace hW2 : Below w.heap.size w (w4.setCell ⟨g, 1, none⟩ (.int .i64 (if p < q then q else p))).drew := (by ((repeat (first | (with_reducible exact Below.refl _ _) | (with_reducible refine below_drewN ?_ _) | (with_reducible refine Below.drew ?_) | (with_reducible refine below_al ?_ _) | (with_reducible refine below_on (by assumption) ?_) | ((with_reducible refine Below.setCell ?_ ?_ _); rotate_left; focus (first | omega | (simp; done) | (simp; omega))) | (with_reducible assumption))); done))
  clear c0 c1' f1 c2 f2 cp cq cg fg k4
  have c1' := k5.cell
  have f1 := k5.free
  have c2 := k3.cell
  have f2 := k3.free
  replace hMn : (cs2.setIfInBounds 1 (Value.int .i64 (if p < q then q else p)))[0]? = some (.int .i64 mn) := by rw [Array.getElem?_setIfInBounds_ne (by omega)]; exact hMn
  have hMx : (cs2.setIfInBounds 1 (Value.int .i64 (if p < q then q else p)))[1]? = some (.int .i64 (if p < q then q else p)) := by rw [Array.getElem?_setIfInBounds_self_of_lt hz2]
  skip
  clear hG1 hz2
  generalize hm' : (if p < q then q else p) = mx at *
  generalize cs2.setIfInBounds 1 (Value.int .i64 mx) = cs3 at *
  generalize (w4.setCell ⟨g, 1, none⟩ (.int .i64 mx)).drew = w5 at *
  have HM := Lib.hid (show mn = min p q from by rw [← hm]; split <;> omega)
  have HX := Lib.hid (show mx = max p q from by rw [← hm']; split <;> omega)
  clear hm hm'
  go_wp2
  refine bodyPost_ret (v := .agg #[.int .i64 kind, .slice (some ⟨g, 0, none⟩) 2 cap1, .int .i64 wd, .int .i64 len]) (by simp [results, Tryz.results17, go_sem, *]) rfl ⟨_, rfl, ?_, (by ((repeat (first | (with_reducible exact Below.refl _ _) | (with_reducible refine below_drewN ?_ _) | (with_reducible refine Below.drew ?_) | (with_reducible refine below_al ?_ _) | (with_reducible refine below_on (by assumption) ?_) | ((with_reducible refine Below.setCell ?_ ?_ _); rotate_left; focus (first | omega | (simp; done) | (simp; omega))) | (with_reducible assumption))); done))⟩
  refine .inr ⟨g, cap1, cs3, rfl, by omega, hcap, hmax, (by ((repeat (first | (with_reducible assumption) | (with_reducible refine Blk.drewN ?_ _) | (with_reducible refine Blk.drew ?_) | ((with_reducible refine Blk.new _ ?_); focus (first | omega | (simp; done) | (simp; omega))) | (with_reducible refine Blk.past ?_ _) | ((with_reducible refine Blk.apart ?_ _ _ _ ?_); rotate_left; focus (first | omega | (simp; done) | (simp; omega))) | (with_reducible refine Blk.by (by assumption) ?_))); done)), ?_⟩
  rw [← HM.out, ← HX.out]
  intro i x hx
  match i, hx with
  | 0, hx => obtain rfl := Option.some.inj hx; exact hMn
  | 1, hx => obtain rfl := Option.some.inj hx; exact hMx
  | (_ + 2), hx => simp at hx

set_option maxRecDepth 100000 in
set_option maxHeartbeats 4000000 in
theorem specNorm_three (kind wd len : Int) (sv : Value) (r p q : Int) (w : World) (h : IntSl w sv [r, p, q]) (hk : pinc kind = 3) :
    Calls Tryz.prog 17 #[.agg #[.int .i64 kind, sv, .int .i64 wd, .int .i64 len]] w fun e w' => ∃ v, e = .returned (.agg #[.int .i64 kind, v, .int .i64 wd, .int .i64 len]) ∧ OwnI w' w.heap.size v [r, min p q, max p q] ∧ Below w.heap.size w w' := by
  have HO := Lib.hid (fun w h => own_any kind wd len sv [r, p, q] w h (by simp))
  have h1 := h.by (((Below.refl _ w).alloc (Nat.le_refl _) (.cells #[.int .i64 kind, sv, .int .i64 wd, .int .i64 len] 46)).alloc (by simp) (.cells #[.int .i64 0, .slice none 0 0, .int .i64 0, .int .i64 0] 46))
  rcases h with ⟨_, _, _, h2⟩ | ⟨b, off, cap, hsv, h2, h3, h4⟩
  · simp at h2
  simp only [List.length_cons, List.length_nil, Nat.zero_add, Nat.reduceAdd] at hsv h2
  subst hsv
  have hp : w.cell? ⟨b, off + 1, none⟩ = some (.int .i64 p) := by have := h4 1 p rfl; simpa using this
  have hq : w.cell? ⟨b, off + 2, none⟩ = some (.int .i64 q) := by have := h4 2 q rfl; simpa using this
  have hbl : b < w.heap.size := by
    rcases Nat.lt_or_ge b w.heap.size with h' | h'
    · exact h'
    · simp [World.cell?, Array.getElem?_eq_none h'] at hp
  clear h4
  have HS := Lib.hid (fun w => by have := l28Shape_any kind wd len (some ⟨b, off, none⟩) 3 cap (by omega) w; rwa [decide_eq_true (by rw [hk]; simp)] at this)
  have HF := Lib.hid (fun w => l28First_any kind wd len (some ⟨b, off, none⟩) 1 cap (by omega) w)
  clear hk
  go_enter Tryz.func17, Tryz.ntmps17
  go_wp2_with fail
  refine (HO.out _ h1).mono ?_
  rintro e w1 ⟨v, rfl, hO, hb1⟩
  clear h1
  have k0 : Blk w1 w.heap.size #[.int .i64 kind, .slice (some ⟨b, off, none⟩) 3 cap, .int .i64 wd, .int .i64 len] 46 := (by ((repeat (first | (with_reducible assumption) | (with_reducible refine Blk.drewN ?_ _) | (with_reducible refine Blk.drew ?_) | ((with_reducible refine Blk.new _ ?_); focus (first | omega | (simp; done) | (simp; omega))) | (with_reducible refine Blk.past ?_ _) | ((with_reducible refine Blk.apart ?_ _ _ _ ?_); rotate_left; focus (first | omega | (simp; done) | (simp; omega))) | (with_reducible refine Blk.by (by assumption) ?_))); done))
  have k1 : Blk w1 (w.heap.size + 1) #[.int .i64 0, .slice none 0 0, .int .i64 0, .int .i64 0] 46 := (by ((repeat (first | (with_reducible assumption) | (with_reducible refine Blk.drewN ?_ _) | (with_reducible refine Blk.drew ?_) | ((with_reducible refine Blk.new _ ?_); focus (first | omega | (simp; done) | (simp; omega))) | (with_reducible refine Blk.past ?_ _) | ((with_reducible refine Blk.apart ?_ _ _ _ ?_); rotate_left; focus (first | omega | (simp; done) | (simp; omega))) | (with_reducible refine Blk.by (by assumption) ?_))); done))
  have hW : Below w.heap.size w w1 := (by ((repeat (first | (with_reducible exact Below.refl _ _) | (with_reducible refine below_drewN ?_ _) | (with_reducible refine Below.drew ?_) | (with_reducible refine below_al ?_ _) | (with_reducible refine below_on (by assumption) ?_) | ((with_reducible refine Below.setCell ?_ ?_ _); rotate_left; focus (first | omega | (simp; done) | (simp; omega))) | (with_reducible assumption))); done))
  clear hb1
  have c0 := k0.cell
  have f0 := k0.free
  have l0 := k0.lt
  have c1' := k1.cell
  have f1 := k1.free
  have l1 := k1.lt
  rcases hO with ⟨_, _, _, hO⟩ | ⟨g, cap1, cs, hv, hlo, hcap, hmax, hG, hG'⟩
  · simp at hO
  simp only [List.length_cons, List.length_nil, Nat.zero_add, Nat.reduceAdd] at hv hcap
  subst hv
  simp at hlo
  have hgp := hG.lt
  go_wp2_with fail
  refine (HS.out _).mono ?_
  rintro e w2 ⟨rfl, hb2⟩
  replace hG := Blk.by hb2 (hG.past (.cells #[.int .i64 kind, .slice (some ⟨g, 0, none⟩) 3 cap1, .int .i64 wd, .int .i64 len] 46))
  have k3 : Blk w2 w1.heap.size #[.int .i64 kind, .slice (some ⟨g, 0, none⟩) 3 cap1, .int .i64 wd, .int .i64 len] 46 := (by ((repeat (first | (with_reducible assumption) | (with_reducible refine Blk.drewN ?_ _) | (with_reducible refine Blk.drew ?_) | ((with_reducible refine Blk.new _ ?_); focus (first | omega | (simp; done) | (simp; omega))) | (with_reducible refine Blk.past ?_ _) | ((with_reducible refine Blk.apart ?_ _ _ _ ?_); rotate_left; focus (first | omega | (simp; done) | (simp; omega))) | (with_reducible refine Blk.by (by assumption) ?_))); done))
  have k4 : Blk w2 w.heap.size #[.int .i64 kind, .slice (some ⟨b, off, none⟩) 3 cap, .int .i64 wd, .int .i64 len] 46 := (by ((repeat (first | (with_reducible assumption) | (with_reducible refine Blk.drewN ?_ _) | (with_reducible refine Blk.drew ?_) | ((with_reducible refine Blk.new _ ?_); focus (first | omega | (simp; done) | (simp; omega))) | (with_reducible refine Blk.past ?_ _) | ((with_reducible refine Blk.apart ?_ _ _ _ ?_); rotate_left; focus (first | omega | (simp; done) | (simp; omega))) | (with_reducible refine Blk.by (by assumption) ?_))); done))
  have k5 : Blk w2 (w.heap.size + 1) #[.int .i64 0, .slice none 0 0, .int .i64 0, .int .i64 0] 46 := (by ((repeat (first | (with_reducible assumption) | (with_reducible refine Blk.drewN ?_ _) | (with_reducible refine Blk.drew ?_) | ((with_reducible refine Blk.new _ ?_); focus (first | omega | (simp; done) | (simp; omega))) | (with_reducible refine Blk.past ?_ _) | ((with_reducible refine Blk.apart ?_ _ _ _ ?_); rotate_left; focus (first | omega | (simp; done) | (simp; omega))) | (with_reducible refine Blk.by (by assumption) ?_))); done))
  have hW2 : Below w.heap.size w w2 := below_on hb2 (below_al hW _)
  clear c0 f0 l0 c1' f1 k0 k1 hb2 hW
  generalize w1.heap.size = px at *
  have c0 := k4.cell
  have c1' := k5.cell
  have f1 := k5.free
  have c2 := k3.cell
  have f2 := k3.free
  go_wp2_with fail
  refine (HF.out _).mono ?_
  rintro e w3 ⟨rfl, hb3⟩
  clear c0 c1' f1 c2 f2
  replace hG := Blk.by hb3 hG
  replace k3 := Blk.by hb3 k3
  replace k4 := Blk.by hb3 k4
  replace k5 := Blk.by hb3 k5
  replace hW2 := below_on hb3 hW2
  clear hb3
  have c0 := k4.cell
  have c1' := k5.cell
  have f1 := k5.free
  have c2 := k3.cell
  have f2 := k3.free
  have cp := cell_by' hW2 hp
  have cq := cell_by' hW2 hq
  have hG0 := hG' 1 p rfl
  have hG1 := hG' 2 q rfl
  have cg := hG.cell
  have fg := hG.free
  have wr1 : IntKind.i64.wrap 1 = 1 := by decide
  have wr2 : IntKind.i64.wrap 2 = 2 := by decide
  go_wp2_with fail
  go_region_held3 (fun w' => (Blk w' (w.heap.size) #[.int .i64 kind, .slice (some ⟨b, off, none⟩) 3 cap, .int .i64 wd, .int .i64 len] 46 ∧ ∀ o, w'.cell? ⟨w.heap.size, o, none⟩ = (#[.int .i64 kind, .slice (some ⟨b, off, none⟩) 3 cap, .int .i64 wd, .int .i64 len] : Array Value)[o]?) ∧ (Blk w' (px) #[.int .i64 kind, .slice (some ⟨g, 0, none⟩) 3 cap1, .int .i64 wd, .int .i64 len] 46 ∧ ∀ o, w'.cell? ⟨px, o, none⟩ = (#[.int .i64 kind, .slice (some ⟨g, 0, none⟩) 3 cap1, .int .i64 wd, .int .i64 len] : Array Value)[o]?) ∧ w'.cell? ⟨b, off + 1, none⟩ = some (.int .i64 p) ∧ w'.cell? ⟨b, off + 2, none⟩ = some (.int .i64 q) ∧ Below w.heap.size w w') (((try (obtain ⟨⟨hS0, _⟩, ⟨hS1, _⟩, _, _, hSB⟩ := hHeld)); refine ⟨Blk.both ?_, Blk.both ?_, cell_by' ?_ hp, cell_by' ?_ hq, ?_⟩ <;> first | ((repeat (first | (with_reducible assumption) | (with_reducible refine Blk.drewN ?_ _) | (with_reducible refine Blk.drew ?_) | ((with_reducible refine Blk.new _ ?_); focus (first | omega | (simp; done) | (simp; omega))) | (with_reducible refine Blk.past ?_ _) | ((with_reducible refine Blk.apart ?_ _ _ _ ?_); rotate_left; focus (first | omega | (simp; done) | (simp; omega))) | (with_reducible refine Blk.by (by assumption) ?_))); done) | ((repeat (first | (with_reducible exact Below.refl _ _) | (with_reducible refine below_drewN ?_ _) | (with_reducible refine Below.drew ?_) | (with_reducible refine below_al ?_ _) | (with_reducible refine below_on (by assumption) ?_) | ((with_reducible refine Below.setCell ?_ ?_ _); rotate_left; focus (first | omega | (simp; done) | (simp; omega))) | (with_reducible assumption))); done))) (fail)
  replace hG := (hG.set 1 (.int .i64 (if q < p then q else p))).drew
  replace k3 := (k3.apart g 1 (.int .i64 (if q < p then q else p)) (by omega)).drew
  replace k4 := (k4.apart g 1 (.int .i64 (if q < p then q else p)) (by omega)).drew
  replace k5 := (k5.apart g 1 (.int .i64 (if q < p then q else p)) (by omega)).drew
  replace hW2 : Below w.heap.size w (w3.setCell ⟨g, 1, none⟩ (.int .i64 (if q < p then q else p))).drew := (by ((repeat (first | (with_reducible exact Below.refl _ _) | (with_reducible refine below_drewN ?_ _) | (with_reducible refine Below.drew ?_) | (with_reducible refine below_al ?_ _) | (with_reducible refine below_on (by assumption) ?_) | ((with_reducible refine Below.setCell ?_ ?_ _); rotate_left; focus (first | omega | (simp; done) | (simp; omega))) | (with_reducible assumption))); done))
  clear c0 c1' f1 c2 f2 cp cq cg fg
  have hz1 : 1 < cs.size := by rcases Nat.lt_or_ge 1 cs.size with h | h; exact h; (rw [Array.getElem?_eq_none h] at hG0; cases hG0)
  have hz2 : 2 < cs.size := by rcases Nat.lt_or_ge 2 cs.size with h | h; exact h; (rw [Array.getElem?_eq_none h] at hG1; cases hG1)
  have c0 := k4.cell
  have c1' := k5.cell
  have f1 := k5.free
  have c2 := k3.cell
  have f2 := k3.free
  have cp := cell_by' hW2 hp
  have cq := cell_by' hW2 hq
  have cg := hG.cell
  have fg := hG.free
  have hG1 : (cs.setIfInBounds 1 (Value.int .i64 (if q < p then q else p)))[2]? = some (.int .i64 q) := by rw [Array.getElem?_setIfInBounds_ne (by omega)]; exact hG1
  have hMn : (cs.setIfInBounds 1 (Value.int .i64 (if q < p then q else p)))[1]? = some (.int .i64 (if q < p then q else p)) := by rw [Array.getElem?_setIfInBounds_self_of_lt hz1]
  have hR : (cs.setIfInBounds 1 (Value.int .i64 (if q < p then q else p)))[0]? = some (.int .i64 r) := by rw [Array.getElem?_setIfInBounds_ne (by omega)]; exact hG' 0 r rfl
  replace hz2 : 2 < (cs.setIfInBounds 1 (Value.int .i64 (if q < p then q else p))).size := by rw [Array.size_setIfInBounds]; exact hz2
  clear hz1 hG0 hG'
  generalize hm : (if q < p then q else p) = mn at *
  generalize cs.setIfInBounds 1 (Value.int .i64 mn) = cs2 at *
  generalize (w3.setCell ⟨g, 1, none⟩ (.int .i64 mn)).drew = w4 at *
  go_wp2_with fail
  go_region_held3 (fun w' => (Blk w' (w.heap.size) #[.int .i64 kind, .slice (some ⟨b, off, none⟩) 3 cap, .int .i64 wd, .int .i64 len] 46 ∧ ∀ o, w'.cell? ⟨w.heap.size, o, none⟩ = (#[.int .i64 kind, .slice (some ⟨b, off, none⟩) 3 cap, .int .i64 wd, .int .i64 len] : Array Value)[o]?) ∧ (Blk w' (px) #[.int .i64 kind, .slice (some ⟨g, 0, none⟩) 3 cap1, .int .i64 wd, .int .i64 len] 46 ∧ ∀ o, w'.cell? ⟨px, o, none⟩ = (#[.int .i64 kind, .slice (some ⟨g, 0, none⟩) 3 cap1, .int .i64 wd, .int .i64 len] : Array Value)[o]?) ∧ w'.cell? ⟨b, off + 1, none⟩ = some (.int .i64 p) ∧ w'.cell? ⟨b, off + 2, none⟩ = some (.int .i64 q) ∧ Below w.heap.size w w') (((try (obtain ⟨⟨hS0, _⟩, ⟨hS1, _⟩, _, _, hSB⟩ := hHeld)); refine ⟨Blk.both ?_, Blk.both ?_, cell_by' ?_ hp, cell_by' ?_ hq, ?_⟩ <;> first | ((repeat (first | (with_reducible assumption) | (with_reducible refine Blk.drewN ?_ _) | (with_reducible refine Blk.drew ?_) | ((with_reducible refine Blk.new _ ?_); focus (first | omega | (simp; done) | (simp; omega))) | (with_reducible refine Blk.past ?_ _) | ((with_reducible refine Blk.apart ?_ _ _ _ ?_); rotate_left; focus (first | omega | (simp; done) | (simp; omega))) | (with_reducible refine Blk.by (by assumption) ?_))); done) | ((repeat (first | (with_reducible exact Below.refl _ _) | (with_reducible refine below_drewN ?_ _) | (with_reducible refine Below.drew ?_) | (with_reducible refine below_al ?_ _) | (with_reducible refine below_on (by assumption) ?_) | ((with_reducible refine Below.setCell ?_ ?_ _); rotate_left; focus (first | omega | (simp; done) | (simp; omega))) | (with_reducible assumption))); done))) (fail)
  replace hG := (hG.set 2 (.int .i64 (if p < q then q else p))).drew
  replace k3 := (k3.apart g 2 (.int .i64 (if p < q then q else p)) (by omega)).drew
  replace k5 := (k5.apart g 2 (.int .i64 (if p < q then q else p)) (by omega)).drew
  replace hW2 : Below w.heap.size w (w4.setCell ⟨g, 2, none⟩ (.int .i64 (if p < q then q else p))).drew := (by ((repeat (first | (with_reducible exact Below.refl _ _) | (with_reducible refine below_drewN ?_ _) | (with_reducible refine Below.drew ?_) | (with_reducible refine below_al ?_ _) | (with_reducible refine below_on (by assumption) ?_) | ((with_reducible refine Below.setCell ?_ ?_ _); rotate_left; focus (first | omega | (simp; done) | (simp; omega))) | (with_reducible assumption))); done))
  clear c0 c1' f1 c2 f2 cp cq cg fg k4
  have c1' := k5.cell
  have f1 := k5.free
  have c2 := k3.cell
  have f2 := k3.free
  replace hMn : (cs2.setIfInBounds 2 (Value.int .i64 (if p < q then q else p)))[1]? = some (.int .i64 mn) := by rw [Array.getElem?_setIfInBounds_ne (by omega)]; exact hMn
  have hMx : (cs2.setIfInBounds 2 (Value.int .i64 (if p < q then q else p)))[2]? = some (.int .i64 (if p < q then q else p)) := by rw [Array.getElem?_setIfInBounds_self_of_lt hz2]
  replace hR : (cs2.setIfInBounds 2 (Value.int .i64 (if p < q then q else p)))[0]? = some (.int .i64 r) := by rw [Array.getElem?_setIfInBounds_ne (by omega)]; exact hR
  clear hG1 hz2
  generalize hm' : (if p < q then q else p) = mx at *
  generalize cs2.setIfInBounds 2 (Value.int .i64 mx) = cs3 at *
  generalize (w4.setCell ⟨g, 2, none⟩ (.int .i64 mx)).drew = w5 at *
  have HM := Lib.hid (show mn = min p q from by rw [← hm]; split <;> omega)
  have HX := Lib.hid (show mx = max p q from by rw [← hm']; split <;> omega)
  clear hm hm'
  go_wp2
  refine bodyPost_ret (v := .agg #[.int .i64 kind, .slice (some ⟨g, 0, none⟩) 3 cap1, .int .i64 wd, .int .i64 len]) (by simp [results, Tryz.results17, go_sem, *]) rfl ⟨_, rfl, ?_, (by ((repeat (first | (with_reducible exact Below.refl _ _) | (with_reducible refine below_drewN ?_ _) | (with_reducible refine Below.drew ?_) | (with_reducible refine below_al ?_ _) | (with_reducible refine below_on (by assumption) ?_) | ((with_reducible refine Below.setCell ?_ ?_ _); rotate_left; focus (first | omega | (simp; done) | (simp; omega))) | (with_reducible assumption))); done))⟩
  refine .inr ⟨g, cap1, cs3, rfl, by omega, hcap, hmax, (by ((repeat (first | (with_reducible assumption) | (with_reducible refine Blk.drewN ?_ _) | (with_reducible refine Blk.drew ?_) | ((with_reducible refine Blk.new _ ?_); focus (first | omega | (simp; done) | (simp; omega))) | (with_reducible refine Blk.past ?_ _) | ((with_reducible refine Blk.apart ?_ _ _ _ ?_); rotate_left; focus (first | omega | (simp; done) | (simp; omega))) | (with_reducible refine Blk.by (by assumption) ?_))); done)), ?_⟩
  rw [← HM.out, ← HX.out]
  intro i x hx
  match i, hx with
  | 0, hx => obtain rfl := Option.some.inj hx; exact hR
  | 1, hx => obtain rfl := Option.some.inj hx; exact hMn
  | 2, hx => obtain rfl := Option.some.inj hx; exact hMx
  | (_ + 3), hx => simp at hx
end Go.Proofs.YtjanifoipbmkhaaGreat
