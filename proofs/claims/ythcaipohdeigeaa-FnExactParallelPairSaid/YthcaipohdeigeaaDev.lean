/- Contracts of the functions of package laws over devices. -/
import Derived.Test.YthcaipohdeigeaaI64S
namespace Go.Proofs.Ythcaipohdeigeaa
open Go.RowKit
set_option linter.unusedVariables false
set_option linter.unusedSimpArgs false

set_option maxRecDepth 100000 in
set_option maxHeartbeats 1000000 in
theorem szDevice_any (kind wd len : Int) (sv : Value) (zs : List Int) (l : Int) (w : World) (h : IntSl w sv zs) (hl : 0 ≤ l) (hl' : l ≤ 1048576) :
    Calls Try.prog 15 #[.agg #[.int .i64 kind, sv, .int .i64 wd, .int .i64 len], .int .i64 l] w fun e w' => e = .returned (.int .i64 (if l < zs.length then -1 else l - zs.length)) ∧ Below w.heap.size w w' := by
  obtain ⟨r, hr⟩ : ∃ r : Int, (if l < zs.length then (-1 : Int) else l - zs.length) = r := ⟨_, rfl⟩
  have hsz := szInt64S_any sv zs l
  rw [hr] at hsz
  rw [hr]
  have hr1 : r = -1 ∨ 0 ≤ r := by rw [← hr]; split <;> omega
  have HS := Lib.hid hsz
  have h1 : IntSl (w.alloc (.cells #[.int .i64 kind, sv, .int .i64 wd, .int .i64 len] 24)) sv zs := h.by ((Below.refl _ _).alloc (Nat.le_refl _) _)
  obtain ⟨a, c, rfl⟩ := h.len
  clear hsz hr h
  rcases hr1 with rfl | hr1
  · go_enter Try.func15, Try.ntmps15
    go_wp2_with fail
    refine (HS.out _ h1 hl hl').mono ?_
    rintro e w' ⟨rfl, rfl⟩
    go_wp2
    go_ret
    exact ⟨rfl, (by ((repeat (first | (with_reducible exact Below.refl _ _) | (with_reducible refine below_drewN ?_ _) | (with_reducible refine Below.drew ?_) | (with_reducible refine below_al ?_ _) | (with_reducible refine below_on (by assumption) ?_) | ((with_reducible refine Below.setCell ?_ ?_ _); rotate_left; focus (first | omega | (simp; done) | (simp; omega))) | (with_reducible assumption))); done))⟩
  · go_enter Try.func15, Try.ntmps15
    go_wp2_with fail
    refine (HS.out _ h1 hl hl').mono ?_
    rintro e w' ⟨rfl, rfl⟩
    go_wp2
    go_ret
    exact ⟨rfl, (by ((repeat (first | (with_reducible exact Below.refl _ _) | (with_reducible refine below_drewN ?_ _) | (with_reducible refine Below.drew ?_) | (with_reducible refine below_al ?_ _) | (with_reducible refine below_on (by assumption) ?_) | ((with_reducible refine Below.setCell ?_ ?_ _); rotate_left; focus (first | omega | (simp; done) | (simp; omega))) | (with_reducible assumption))); done))⟩

set_option maxRecDepth 100000 in
set_option maxHeartbeats 1000000 in
theorem toDevice_any (kind wd len : Int) (sv : Value) (zs : List Int) (w : World) (h : IntSl w sv zs) (hn : zs.length ≤ 1048576) :
    Calls Try.prog 17 #[.agg #[.int .i64 kind, sv, .int .i64 wd, .int .i64 len]] w fun e w' => ∃ g, e = .returned (.agg #[.int .i64 kind, .slice (some ⟨g, 0, none⟩) zs.length zs.length, .int .i64 wd, .int .i64 len]) ∧ IBlk w' g zs ∧ w.heap.size ≤ g ∧ Below w.heap.size w w' := by
  have HT := Lib.hid (fun w h => toInt64S_any sv zs w h hn)
  have h1 := h.by ((((Below.refl _ w).alloc (Nat.le_refl _) (.cells #[.int .i64 kind, sv, .int .i64 wd, .int .i64 len] 24)).alloc (by simp) (.cells #[.int .i64 0, .slice none 0 0, .int .i64 0, .int .i64 0] 27)).alloc (by simp; omega) (.cells #[.int .i64 kind, .slice none 0 0, .int .i64 0, .int .i64 0] 27))
  obtain ⟨a, c, rfl⟩ := h.len
  clear h
  go_enter Try.func17, Try.ntmps17
  go_wp2_with fail
  refine (HT.out _ h1).mono ?_
  rintro e w1 ⟨g, rfl, hG, hge, hb1⟩
  clear h1
  have k0 : Blk w1 w.heap.size #[.int .i64 kind, .slice a zs.length c, .int .i64 wd, .int .i64 len] 24 := (by ((repeat (first | (with_reducible assumption) | (with_reducible refine Blk.drewN ?_ _) | (with_reducible refine Blk.drew ?_) | ((with_reducible refine Blk.new _ ?_); focus (first | omega | (simp; done) | (simp; omega))) | (with_reducible refine Blk.past ?_ _) | ((with_reducible refine Blk.apart ?_ _ _ _ ?_); rotate_left; focus (first | omega | (simp; done) | (simp; omega))) | (with_reducible refine Blk.by (by assumption) ?_))); done))
  have k1 : Blk w1 (w.heap.size + 1) #[.int .i64 0, .slice none 0 0, .int .i64 0, .int .i64 0] 27 := (by ((repeat (first | (with_reducible assumption) | (with_reducible refine Blk.drewN ?_ _) | (with_reducible refine Blk.drew ?_) | ((with_reducible refine Blk.new _ ?_); focus (first | omega | (simp; done) | (simp; omega))) | (with_reducible refine Blk.past ?_ _) | ((with_reducible refine Blk.apart ?_ _ _ _ ?_); rotate_left; focus (first | omega | (simp; done) | (simp; omega))) | (with_reducible refine Blk.by (by assumption) ?_))); done))
  have k2 : Blk w1 (w.heap.size + 1 + 1) #[.int .i64 kind, .slice none 0 0, .int .i64 0, .int .i64 0] 27 := (by ((repeat (first | (with_reducible assumption) | (with_reducible refine Blk.drewN ?_ _) | (with_reducible refine Blk.drew ?_) | ((with_reducible refine Blk.new _ ?_); focus (first | omega | (simp; done) | (simp; omega))) | (with_reducible refine Blk.past ?_ _) | ((with_reducible refine Blk.apart ?_ _ _ _ ?_); rotate_left; focus (first | omega | (simp; done) | (simp; omega))) | (with_reducible refine Blk.by (by assumption) ?_))); done))
  have c0 := k0.cell
  have c1 := k1.cell
  have f1 := k1.free
  have c2 := k2.cell
  have f2 := k2.free
  simp at hge
  go_wp2
  refine bodyPost_ret (v := .agg #[.int .i64 kind, .slice (some ⟨g, 0, none⟩) zs.length zs.length, .int .i64 wd, .int .i64 len]) (by simp [results, Try.results17, go_sem, *]) rfl ⟨g, rfl, ?_, by omega, (by ((repeat (first | (with_reducible exact Below.refl _ _) | (with_reducible refine below_drewN ?_ _) | (with_reducible refine Below.drew ?_) | (with_reducible refine below_al ?_ _) | (with_reducible refine below_on (by assumption) ?_) | ((with_reducible refine Below.setCell ?_ ?_ _); rotate_left; focus (first | omega | (simp; done) | (simp; omega))) | (with_reducible assumption))); done))⟩
  repeat (first | (with_reducible exact hG) | ((with_reducible refine IBlk.apart ?_ _ _ _ ?_); rotate_left; focus omega))

set_option maxRecDepth 100000 in
set_option maxHeartbeats 1000000 in
theorem eqDevice_refl (kind wd len : Int) (s1 s2 : Value) (zs : List Int) (w : World) (h : IntSl w s1 zs) (h' : IntSl w s2 zs) :
    Calls Try.prog 19 #[.agg #[.int .i64 kind, s1, .int .i64 wd, .int .i64 len], .agg #[.int .i64 kind, s2, .int .i64 wd, .int .i64 len]] w fun e w' => e = .returned (.bool true) ∧ Below w.heap.size w w' := by
  have HT := Lib.hid (fun w h h' => eqInt64S_refl s1 s2 zs w h h')
  have hw := (((Below.refl _ w).alloc (Nat.le_refl _) (.cells #[.int .i64 kind, s1, .int .i64 wd, .int .i64 len] 27)).alloc (by simp) (.cells #[.int .i64 kind, s2, .int .i64 wd, .int .i64 len] 27))
  have h1 := h.by hw
  have h2 := h'.by hw
  obtain ⟨a, c, rfl⟩ := h.len
  obtain ⟨a', c', rfl⟩ := h'.len
  clear h h' hw
  go_enter Try.func19, Try.ntmps19
  go_wp2_with fail
  refine (HT.out _ h1 h2).mono ?_
  rintro e w1 ⟨rfl, m, rfl⟩
  go_wp2
  go_ret
  exact ⟨rfl, (by ((repeat (first | (with_reducible exact Below.refl _ _) | (with_reducible refine below_drewN ?_ _) | (with_reducible refine Below.drew ?_) | (with_reducible refine below_al ?_ _) | (with_reducible refine below_on (by assumption) ?_) | ((with_reducible refine Below.setCell ?_ ?_ _); rotate_left; focus (first | omega | (simp; done) | (simp; omega))) | (with_reducible assumption))); done))⟩
end Go.Proofs.Ythcaipohdeigeaa
