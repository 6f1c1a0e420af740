/- Contracts of the functions of package laws over networks. -/
import Derived.Test.YtljlcjficjefdaaResS
namespace Go.Proofs.Ytljlcjficjefdaa
open Go.RowKit
set_option linter.unusedVariables false
set_option linter.unusedSimpArgs false

theorem ResBlk.alloc {w : World} {g : Nat} {xs : List Res} (h : ResBlk w g xs) (o : Obj) : ResBlk (w.alloc o) g xs := by
  obtain ⟨cs, h1, h2⟩ := h; exact ⟨cs, h1.past o, h2⟩
theorem ResBlk.apart {w : World} {g : Nat} {xs : List Res} (h : ResBlk w g xs) (b o : Nat) (v : Value) (hne : g ≠ b) : ResBlk (w.setCell ⟨b, o, none⟩ v) g xs := by
  obtain ⟨cs, h1, h2⟩ := h; exact ⟨cs, h1.apart b o v hne, h2⟩
theorem ResBlk.lt {w : World} {g : Nat} {xs : List Res} (h : ResBlk w g xs) : g < w.heap.size := by
  obtain ⟨cs, h1, h2⟩ := h; exact h1.lt

set_option maxRecDepth 100000 in
set_option maxHeartbeats 1000000 in
theorem szNetwork_any (nodes : Int) (sv : Value) (xs : List Res) (l : Int) (w : World) (h : ResSl w sv xs) (hl : 0 ≤ l) (hl' : l ≤ 1048576) :
    Calls Try.prog 9 #[.agg #[.int .i64 nodes, sv], .int .i64 l] w fun e w' => e = .returned (.int .i64 (if l < xs.length then -1 else l - xs.length)) ∧ Below w.heap.size w w' := by
  obtain ⟨r, hr⟩ : ∃ r : Int, (if l < xs.length then (-1 : Int) else l - xs.length) = r := ⟨_, rfl⟩
  have hsz := szResistorS_any sv xs l
  rw [hr] at hsz
  rw [hr]
  have hr1 : r = -1 ∨ 0 ≤ r := by rw [← hr]; split <;> omega
  have HS := Lib.hid hsz
  have h1 : ResSl (w.alloc (.cells #[.int .i64 nodes, sv] 24)) sv xs := h.by ((Below.refl _ _).alloc (Nat.le_refl _) _)
  obtain ⟨a, c, rfl⟩ := h.len
  clear hsz hr h
  rcases hr1 with rfl | hr1
  · go_enter Try.func9, Try.ntmps9
    go_wp2_with fail
    refine (HS.out _ h1 hl hl').mono ?_
    rintro e w' ⟨rfl, rfl⟩
    go_wp2
    go_ret
    exact ⟨rfl, (by ((repeat (first | (with_reducible exact Below.refl _ _) | (with_reducible refine below_drewN ?_ _) | (with_reducible refine Below.drew ?_) | (with_reducible refine below_al ?_ _) | (with_reducible refine below_on (by assumption) ?_) | ((with_reducible refine Below.setCell ?_ ?_ _); rotate_left; focus (first | omega | (simp; done) | (simp; omega))) | (with_reducible assumption))); done))⟩
  · go_enter Try.func9, Try.ntmps9
    go_wp2_with fail
    refine (HS.out _ h1 hl hl').mono ?_
    rintro e w' ⟨rfl, rfl⟩
    go_wp2
    go_ret
    exact ⟨rfl, (by ((repeat (first | (with_reducible exact Below.refl _ _) | (with_reducible refine below_drewN ?_ _) | (with_reducible refine Below.drew ?_) | (with_reducible refine below_al ?_ _) | (with_reducible refine below_on (by assumption) ?_) | ((with_reducible refine Below.setCell ?_ ?_ _); rotate_left; focus (first | omega | (simp; done) | (simp; omega))) | (with_reducible assumption))); done))⟩

set_option maxRecDepth 100000 in
set_option maxHeartbeats 1000000 in
theorem toNetwork_any (nodes : Int) (sv : Value) (xs : List Res) (w : World) (h : ResSl w sv xs) (hn : xs.length ≤ 1048576) :
    Calls Try.prog 11 #[.agg #[.int .i64 nodes, sv]] w fun e w' => ∃ g, e = .returned (.agg #[.int .i64 nodes, .slice (some ⟨g, 0, none⟩) xs.length xs.length]) ∧ ResBlk w' g xs ∧ w.heap.size ≤ g ∧ Below w.heap.size w w' := by
  have HT := Lib.hid (fun w h => toResistorS_any sv xs w h hn)
  have h1 := h.by ((((Below.refl _ w).alloc (Nat.le_refl _) (.cells #[.int .i64 nodes, sv] 24)).alloc (by simp) (.cells #[.int .i64 0, .slice none 0 0] 32)).alloc (by simp; omega) (.cells #[.int .i64 nodes, .slice none 0 0] 32))
  obtain ⟨a, c, rfl⟩ := h.len
  clear h
  go_enter Try.func11, Try.ntmps11
  go_wp2_with fail
  refine (HT.out _ h1).mono ?_
  rintro e w1 ⟨g, rfl, hG, hge, hb1⟩
  clear h1
  have k1 : Blk w1 (w.heap.size + 1) #[.int .i64 0, .slice none 0 0] 32 := (by ((repeat (first | (with_reducible assumption) | (with_reducible refine Blk.drewN ?_ _) | (with_reducible refine Blk.drew ?_) | ((with_reducible refine Blk.new _ ?_); focus (first | omega | (simp; done) | (simp; omega))) | (with_reducible refine Blk.past ?_ _) | ((with_reducible refine Blk.apart ?_ _ _ _ ?_); rotate_left; focus (first | omega | (simp; done) | (simp; omega))) | (with_reducible refine Blk.by (by assumption) ?_))); done))
  have k2 : Blk w1 (w.heap.size + 1 + 1) #[.int .i64 nodes, .slice none 0 0] 32 := (by ((repeat (first | (with_reducible assumption) | (with_reducible refine Blk.drewN ?_ _) | (with_reducible refine Blk.drew ?_) | ((with_reducible refine Blk.new _ ?_); focus (first | omega | (simp; done) | (simp; omega))) | (with_reducible refine Blk.past ?_ _) | ((with_reducible refine Blk.apart ?_ _ _ _ ?_); rotate_left; focus (first | omega | (simp; done) | (simp; omega))) | (with_reducible refine Blk.by (by assumption) ?_))); done))
  have c1 := k1.cell
  have f1 := k1.free
  have c2 := k2.cell
  have f2 := k2.free
  simp at hge
  go_wp2
  refine bodyPost_ret (v := .agg #[.int .i64 nodes, .slice (some ⟨g, 0, none⟩) xs.length xs.length]) (by simp [results, Try.results11, go_sem, *]) rfl ⟨g, rfl, ?_, by omega, (by ((repeat (first | (with_reducible exact Below.refl _ _) | (with_reducible refine below_drewN ?_ _) | (with_reducible refine Below.drew ?_) | (with_reducible refine below_al ?_ _) | (with_reducible refine below_on (by assumption) ?_) | ((with_reducible refine Below.setCell ?_ ?_ _); rotate_left; focus (first | omega | (simp; done) | (simp; omega))) | (with_reducible assumption))); done))⟩
  exact ((hG.apart _ _ _ (by omega)).apart _ _ _ (by omega)).apart _ _ _ (by omega)

set_option maxRecDepth 100000 in
set_option maxHeartbeats 1000000 in
theorem eqNetwork_refl (nodes : Int) (s1 s2 : Value) (xs : List Res) (w : World) (h : ResSl w s1 xs) (h' : ResSl w s2 xs) :
    Calls Try.prog 14 #[.agg #[.int .i64 nodes, s1], .agg #[.int .i64 nodes, s2]] w fun e w' => e = .returned (.bool true) ∧ Below w.heap.size w w' := by
  have HT := Lib.hid (fun w h h' => eqResistorS_refl s1 s2 xs w h h')
  have hw := (((Below.refl _ w).alloc (Nat.le_refl _) (.cells #[.int .i64 nodes, s1] 32)).alloc (by simp) (.cells #[.int .i64 nodes, s2] 32))
  have h1 := h.by hw
  have h2 := h'.by hw
  obtain ⟨a, c, rfl⟩ := h.len
  obtain ⟨a', c', rfl⟩ := h'.len
  clear h h' hw
  go_enter Try.func14, Try.ntmps14
  go_wp2_with fail
  refine (HT.out _ h1 h2).mono ?_
  rintro e w1 ⟨rfl, hb1⟩
  go_wp2
  go_ret
  exact ⟨rfl, (by ((repeat (first | (with_reducible exact Below.refl _ _) | (with_reducible refine below_drewN ?_ _) | (with_reducible refine Below.drew ?_) | (with_reducible refine below_al ?_ _) | (with_reducible refine below_on (by assumption) ?_) | ((with_reducible refine Below.setCell ?_ ?_ _); rotate_left; focus (first | omega | (simp; done) | (simp; omega))) | (with_reducible assumption))); done))⟩
end Go.Proofs.Ytljlcjficjefdaa
