/- Slices of int64: what a walk knows of one, and the contracts of the functions of package laws over them. -/
import Derived.Test.YthcaipohdeigeaaBlk
import Derived.Test.YthcaipohdeigeaaOnly
import Derived.Test.YthcaipohdeigeaaOpenG
import Derived.Deep.RegionHeld3
import Derived.Deep.QuietTactic
import Derived.BigQuiet
namespace Go.Proofs.Ythcaipohdeigeaa
open Go.RowKit
set_option linter.unusedVariables false
set_option linter.unusedSimpArgs false

/-- A slice that reads as these numbers. -/
def IntSl (w : World) (sv : Value) (zs : List Int) : Prop :=
  (∃ a c, sv = .slice a 0 c ∧ zs = []) ∨ ∃ b off cap, sv = .slice (some ⟨b, off, none⟩) zs.length cap ∧ zs.length ≤ cap ∧ cap ≤ maxLen ∧ ∀ (i : Nat) (x : Int), zs[i]? = some x → w.cell? ⟨b, off + i, none⟩ = some (.int .i64 x)
/-- A block of the call's own that holds these numbers, and no more. -/
def IBlk (w : World) (g : Nat) (zs : List Int) : Prop := ∃ cs : Array Value, Blk w g cs 2 ∧ cs.size = zs.length ∧ ∀ (i : Nat) (x : Int), zs[i]? = some x → cs[i]? = some (Value.int .i64 x)
def Fits (x : Int) : Prop := -9223372036854775808 ≤ x ∧ x ≤ 9223372036854775807

theorem cell_by' {w w1 : World} {p : Addr} {v : Value} (hb : Below w.heap.size w w1) (h : w.cell? p = some v) : w1.cell? p = some v := by
  have hlt : p.block < w.heap.size := by
    rcases Nat.lt_or_ge p.block w.heap.size with h' | h'
    · exact h'
    · simp [World.cell?, Array.getElem?_eq_none h'] at h
  rw [hb.cell hlt]; exact h
theorem IntSl.by {w w1 : World} {sv : Value} {zs : List Int} (hb : Below w.heap.size w w1) (h : IntSl w sv zs) : IntSl w1 sv zs := by
  rcases h with h | ⟨b, off, cap, h1, h2, h3, h4⟩
  · exact .inl h
  · exact .inr ⟨b, off, cap, h1, h2, h3, fun i x hx => cell_by' hb (h4 i x hx)⟩
theorem IntSl.len {w : World} {sv : Value} {zs : List Int} (h : IntSl w sv zs) : ∃ a c, sv = .slice a zs.length c := by
  rcases h with ⟨a, c, h1, h2⟩ | ⟨b, off, cap, h1, _⟩
  · subst h2; exact ⟨a, c, h1⟩
  · exact ⟨_, _, h1⟩
theorem IntSl.le {w : World} {sv : Value} {zs : List Int} (h : IntSl w sv zs) : zs.length ≤ 9223372036854775807 := by
  rcases h with ⟨a, c, h1, h2⟩ | ⟨b, off, cap, h1, h2, h3, _⟩
  · subst h2; simp
  · unfold maxLen at h3; omega
theorem IBlk.by {w w1 : World} {g : Nat} {zs : List Int} (hb : Below w.heap.size w w1) (h : IBlk w g zs) : IBlk w1 g zs := by
  obtain ⟨cs, h1, h2⟩ := h; exact ⟨cs, Blk.by hb h1, h2⟩
theorem IBlk.sl {w : World} {g : Nat} {zs : List Int} (h : IBlk w g zs) (hm : zs.length ≤ 9223372036854775807) : IntSl w (.slice (some ⟨g, 0, none⟩) zs.length zs.length) zs := by
  obtain ⟨cs, h1, h2, h3⟩ := h
  refine .inr ⟨g, 0, zs.length, rfl, Nat.le_refl _, by unfold maxLen; omega, fun i x hx => ?_⟩
  rw [Nat.zero_add, h1.cell]; exact h3 i x hx
theorem IBlk.alloc {w : World} {g : Nat} {zs : List Int} (h : IBlk w g zs) (o : Obj) : IBlk (w.alloc o) g zs := by
  obtain ⟨cs, h1, h2⟩ := h; exact ⟨cs, h1.past o, h2⟩
theorem IBlk.apart {w : World} {g : Nat} {zs : List Int} (h : IBlk w g zs) (b o : Nat) (v : Value) (hne : g ≠ b) : IBlk (w.setCell ⟨b, o, none⟩ v) g zs := by
  obtain ⟨cs, h1, h2⟩ := h; exact ⟨cs, h1.apart b o v hne, h2⟩
theorem IBlk.drewN {w : World} {g : Nat} {zs : List Int} (h : IBlk w g zs) (n : Nat) : IBlk (w.drewN n) g zs := by
  obtain ⟨cs, h1, h2⟩ := h; exact ⟨cs, h1.drewN n, h2⟩
theorem IBlk.lt {w : World} {g : Nat} {zs : List Int} (h : IBlk w g zs) : g < w.heap.size := by
  obtain ⟨cs, h1, h2⟩ := h; exact h1.lt

theorem infoI : (Try.prog.info? 2).map (fun i => (i.zero, i.size, i.bytes)) = some (some (.int .i64 0), 1, 8) := by kernel_rfl
/-- make([]int64, n): a new block of n noughts. -/
theorem make_ints (n : Nat) (hn : n ≤ 1048576) (w : World) : ∃ cs : Array Value, cs.size = n ∧ (∀ i, i < n → cs[i]? = some (Value.int .i64 0)) ∧ (Instr.makeSlice 22 (.int .i64 n) (.int .i64 n)).run Try.prog w = .ok (.slice (some ⟨w.heap.size, 0, none⟩) n n) (w.alloc (.cells cs 2)) := by
  obtain ⟨i0, hi, hz0, hz1, hz2⟩ := info_parts infoI
  have h := run_make (P := Try.prog) w 22 2 i0 _ Try.underlying22 hi hz0 .i64 .i64 (n : Int) (n : Int) (by omega) (by omega) (by rw [hz2]; omega) (by omega)
  simp only [Int.toNat_natCast, hz1, Nat.mul_one] at h
  refine ⟨_, size_madeCells _ _, fun i hi => ?_, h⟩
  simp [madeCells, hi, Value.cells, Nat.mod_one]

theorem szInt64S_any (sv : Value) (zs : List Int) (l : Int) (w : World) (h : IntSl w sv zs) (hl : 0 ≤ l) (hl' : l ≤ 1048576) :
    Calls Try.prog 56 #[sv, .int .i64 l] w fun e w' => e = .returned (.int .i64 (if l < zs.length then -1 else l - zs.length)) ∧ w = w' := by
  obtain ⟨r, hr⟩ : ∃ r : Int, (if l < zs.length then (-1 : Int) else l - zs.length) = r := ⟨_, rfl⟩
  rw [hr]
  have HR := Lib.hid hr
  have hlen := h.le
  obtain ⟨a, c, rfl⟩ := h.len
  clear hr
  generalize zs.length = n at *
  clear h
  by_cases hlt : l < n
  · go_enter Try.func56, Try.ntmps56
    go_wp2
    go_ret
    exact ⟨ret_i64 (by rw [← HR.out, if_pos hlt]), rfl⟩
  · go_enter Try.func56, Try.ntmps56
    go_wp2
    go_ret
    exact ⟨ret_i64 (by rw [← HR.out, if_neg (by omega)]), rfl⟩

set_option maxRecDepth 100000 in
set_option maxHeartbeats 1000000 in
theorem toInt64S_any (sv : Value) (zs : List Int) (w : World) (h : IntSl w sv zs) (hn : zs.length ≤ 1048576) :
    Calls Try.prog 59 #[sv] w fun e w' => ∃ g, e = .returned (.slice (some ⟨g, 0, none⟩) zs.length zs.length) ∧ IBlk w' g zs ∧ w.heap.size ≤ g ∧ Below w.heap.size w w' := by
  rcases h with ⟨a, c, rfl, rfl⟩ | ⟨b, off, cap, rfl, h2, h3, h4⟩
  · obtain ⟨cs, hcs, _, hmk⟩ := make_ints 0 (by omega) w
    simp only [Int.natCast_zero] at hmk
    go_enter Try.func59, Try.ntmps59
    go_wp2
    go_loopw [4] (fun i wr => i = .int .i64 0 ∧ Blk wr w.heap.size cs 2 ∧ Below w.heap.size w wr) (fun _ _ => 0)
    case atStart => exact ⟨rfl, (by ((repeat (first | (with_reducible assumption) | (with_reducible refine Blk.drewN ?_ _) | (with_reducible refine Blk.drew ?_) | ((with_reducible refine Blk.new _ ?_); focus (first | omega | (simp; done) | (simp; omega))) | (with_reducible refine Blk.past ?_ _) | ((with_reducible refine Blk.apart ?_ _ _ _ ?_); rotate_left; focus (first | omega | (simp; done) | (simp; omega))) | (with_reducible refine Blk.by (by assumption) ?_))); done)), (by ((repeat (first | (with_reducible exact Below.refl _ _) | (with_reducible refine below_drewN ?_ _) | (with_reducible refine Below.drew ?_) | (with_reducible refine below_al ?_ _) | (with_reducible refine below_on (by assumption) ?_) | ((with_reducible refine Below.setCell ?_ ?_ _); rotate_left; focus (first | omega | (simp; done) | (simp; omega))) | (with_reducible assumption))); done))⟩
    case round =>
      obtain ⟨rfl, hx, hb⟩ := hrel
      go_wp2
      go_ret
      exact ⟨w.heap.size, rfl, ⟨cs, hx, hcs, by simp⟩, Nat.le_refl _, hb⟩
  · obtain ⟨cs0, hcs0, _, hmk⟩ := make_ints zs.length hn w
    unfold maxLen at h3
    go_enter Try.func59, Try.ntmps59
    go_wp2
    clear hmk
    go_loopw [4] (fun i wr => ∃ k : Nat, k ≤ zs.length ∧ i = .int .i64 k ∧ (∃ cs : Array Value, Blk wr w.heap.size cs 2 ∧ cs.size = zs.length ∧ ∀ (j : Nat) (y : Int), j < k → zs[j]? = some y → cs[j]? = some (Value.int .i64 y)) ∧ Below w.heap.size w wr) (fun i _ => zs.length - (intOf i).toNat)
    case atStart => exact ⟨0, Nat.zero_le _, rfl, ⟨cs0, (by ((repeat (first | (with_reducible assumption) | (with_reducible refine Blk.drewN ?_ _) | (with_reducible refine Blk.drew ?_) | ((with_reducible refine Blk.new _ ?_); focus (first | omega | (simp; done) | (simp; omega))) | (with_reducible refine Blk.past ?_ _) | ((with_reducible refine Blk.apart ?_ _ _ _ ?_); rotate_left; focus (first | omega | (simp; done) | (simp; omega))) | (with_reducible refine Blk.by (by assumption) ?_))); done)), hcs0, by intro j y hj; omega⟩, (by ((repeat (first | (with_reducible exact Below.refl _ _) | (with_reducible refine below_drewN ?_ _) | (with_reducible refine Below.drew ?_) | (with_reducible refine below_al ?_ _) | (with_reducible refine below_on (by assumption) ?_) | ((with_reducible refine Below.setCell ?_ ?_ _); rotate_left; focus (first | omega | (simp; done) | (simp; omega))) | (with_reducible assumption))); done))⟩
    case round =>
      obtain ⟨k, hk, rfl, ⟨cs, hB, hsz, hold⟩, hb⟩ := hrel
      by_cases hlt : k < zs.length
      · obtain ⟨x, hx⟩ : ∃ x, zs[k]? = some x := ⟨zs[k], List.getElem?_eq_getElem hlt⟩
        have c1 := cell_by' hb (h4 k x hx)
        have HS := Lib.hid hsz
        have HO := Lib.hid hold
        have HX := Lib.hid hx
        have hin : k < cs.size := by omega
        obtain ⟨u0_, d0⟩ : ∃ u, cs[k]? = some u := ⟨_, Array.getElem?_eq_getElem hin⟩
        clear hsz hold hx h4 hcs0
        have hBc := hB.cell
        have hBf := hB.free
        have i1 : (0 : Int) ≤ (k : Int) := by omega
        have i2 : (k : Int) < (zs.length : Int) := by omega
        go_wp2
        refine ⟨⟨k + 1, by omega, by go_num, ⟨cs.setIfInBounds k (.int .i64 x), hB.set _ _, by simp [HS.out], ?_⟩, (by ((repeat (first | (with_reducible exact Below.refl _ _) | (with_reducible refine below_drewN ?_ _) | (with_reducible refine Below.drew ?_) | (with_reducible refine below_al ?_ _) | (with_reducible refine below_on (by assumption) ?_) | ((with_reducible refine Below.setCell ?_ ?_ _); rotate_left; focus (first | omega | (simp; done) | (simp; omega))) | (with_reducible assumption))); done))⟩, by simp [intOf]; omega⟩
        intro j y hj hy
        rw [Array.getElem?_setIfInBounds]
        by_cases hjk : k = j
        · subst hjk
          obtain rfl : y = x := Option.some.inj (hy.symm.trans HX.out)
          rw [if_pos rfl, if_pos hin]
        · rw [if_neg hjk]; exact HO.out j y (by omega) hy
      · go_wp2
        go_ret
        refine ⟨w.heap.size, rfl, ⟨cs, hB, hsz, fun i x hx => hold i x ?_ hx⟩, Nat.le_refl _, hb⟩
        have := (List.getElem?_eq_some_iff.1 hx).1
        omega

set_option maxRecDepth 100000 in
set_option maxHeartbeats 1000000 in
theorem eqInt64S_refl (s1 s2 : Value) (zs : List Int) (w : World) (h : IntSl w s1 zs) (h' : IntSl w s2 zs) :
    Calls Try.prog 38 #[s1, s2] w fun e w' => e = .returned (.bool true) ∧ ∃ n, w' = w.drewN n := by
  have hlen := h.le
  by_cases h0 : zs = []
  · subst h0
    obtain ⟨a, c, rfl⟩ := h.len
    obtain ⟨a', c', rfl⟩ := h'.len
    go_enter Try.func38, Try.ntmps38
    go_wp2
    go_loopw [5] (fun i wr => i = .int .i64 0 ∧ wr = w) (fun _ _ => 0)
    case atStart => exact ⟨rfl, rfl⟩
    case round =>
      obtain ⟨rfl, rfl⟩ := hrel
      go_wp2
      go_ret
      exact ⟨rfl, 0, rfl⟩
  · rcases h with ⟨_, _, _, h2⟩ | ⟨b, off, cap, rfl, h2, h3, h4⟩
    · exact absurd h2 h0
    rcases h' with ⟨_, _, _, h2'⟩ | ⟨b', off', cap', rfl, h2', h3', h4'⟩
    · exact absurd h2' h0
    clear h0
    unfold maxLen at h3 h3'
    go_enter Try.func38, Try.ntmps38
    go_wp2
    go_loopw [5] (fun i wr => ∃ k n : Nat, k ≤ zs.length ∧ i = .int .i64 k ∧ wr = w.drewN n) (fun i _ => zs.length - (intOf i).toNat)
    case atStart => exact ⟨0, 0, Nat.zero_le _, rfl, rfl⟩
    case round =>
      obtain ⟨k, n, hk, rfl, rfl⟩ := hrel
      by_cases hlt : k < zs.length
      · obtain ⟨x, hx⟩ : ∃ x, zs[k]? = some x := ⟨zs[k], List.getElem?_eq_getElem hlt⟩
        have c1 := h4 k x hx
        have c2 := h4' k x hx
        clear h4 h4' hx
        have i1 : (0 : Int) ≤ (k : Int) := by omega
        have i2 : (k : Int) < (zs.length : Int) := by omega
        go_wp2
        go_quiet (fail)
        go_wp2
        exact ⟨⟨k + 1, _, by omega, by go_num, rfl⟩, by simp [intOf]; omega⟩
      · go_wp2
        go_ret
        exact ⟨rfl, n, rfl⟩

/-- n numbers from k on. -/
def marks (k : Int) (n : Nat) : List Int := (List.range n).map fun (i : Nat) => k + (i : Int)
theorem length_marks (k : Int) (n : Nat) : (marks k n).length = n := by simp [marks]
theorem marks_get (k : Int) (n i : Nat) (h : i < n) : (marks k n)[i]? = some (k + i) := by simp [marks, h]

set_option maxRecDepth 100000 in
set_option maxHeartbeats 1000000 in
theorem markInt64S_any (g : Nat) (zs : List Int) (k0 : Int) (w : World) (h : IBlk w g zs) (hn : zs.length ≤ 1048576) (hk : 0 ≤ k0) (hk' : k0 ≤ 1000000000000) :
    Calls Try.prog 41 #[.slice (some ⟨g, 0, none⟩) zs.length zs.length, .int .i64 k0] w fun e w' => e = .returned (.int .i64 (k0 + zs.length)) ∧ IBlk w' g (marks k0 zs.length) ∧ Only g w w' := by
  obtain ⟨cs0, h1, h2, h3⟩ := h
  go_enter Try.func41, Try.ntmps41
  go_wp2
  go_loopw [1, 5] (fun v i wr => ∃ k : Nat, k ≤ zs.length ∧ i = .int .i64 k ∧ v = .int .i64 (k0 + k) ∧ (∃ cs : Array Value, Blk wr g cs 2 ∧ cs.size = zs.length ∧ ∀ j, j < k → cs[j]? = some (Value.int .i64 (k0 + j))) ∧ Only g w wr) (fun _ i _ => zs.length - (intOf i).toNat)
  case atStart => exact ⟨0, Nat.zero_le _, rfl, by simp, ⟨cs0, h1, h2, by intro j hj; omega⟩, Only.refl _ _⟩
  case round =>
    obtain ⟨k, hkl, rfl, rfl, ⟨cs, hB, hsz, hold⟩, ho⟩ := hrel
    by_cases hlt : k < zs.length
    · have HS := Lib.hid hsz
      have HO := Lib.hid hold
      have hin : k < cs.size := by omega
      obtain ⟨u0_, d0⟩ : ∃ u, cs[k]? = some u := ⟨_, Array.getElem?_eq_getElem hin⟩
      clear hsz hold h2 h3
      have hBc := hB.cell
      have hBf := hB.free
      go_wp2
      refine ⟨⟨k + 1, by omega, by go_num, by congr 1; omega, ⟨cs.setIfInBounds k (.int .i64 (k0 + k)), hB.set _ _, by simp [HS.out], ?_⟩, ho.set _ _⟩, by simp [intOf]; omega⟩
      intro j hj
      rw [Array.getElem?_setIfInBounds]
      by_cases hjk : k = j
      · subst hjk
        rw [if_pos rfl, if_pos hin]
      · rw [if_neg hjk]; exact HO.out j (by omega)
    · obtain rfl : k = zs.length := by omega
      go_wp2
      go_ret
      refine ⟨rfl, ⟨cs, hB, by rw [hsz, length_marks], fun i x hx => ?_⟩, ho⟩
      have hi : i < zs.length := by have := (List.getElem?_eq_some_iff.1 hx).1; rwa [length_marks] at this
      rw [marks_get k0 _ i hi] at hx
      cases hx
      exact hold i hi

set_option maxRecDepth 100000 in
set_option maxHeartbeats 1000000 in
theorem heldInt64S_any (sv : Value) (n : Nat) (k0 : Int) (w : World) (h : IntSl w sv (marks k0 n)) (hn : n ≤ 1048576) (hk : 0 ≤ k0) (hk' : k0 ≤ 1000000000000) :
    Calls Try.prog 42 #[sv, .int .i64 k0] w fun e w' => e = .returned (.int .i64 (k0 + n)) ∧ ∃ m, w' = w.drewN m := by
  have hlm := length_marks k0 n
  obtain ⟨a, c, rfl⟩ := h.len
  rw [hlm]
  have hcell : ∀ i, i < n → ∃ b off, a = some ⟨b, off, none⟩ ∧ w.cell? ⟨b, off + i, none⟩ = some (.int .i64 (k0 + i)) := by
    intro i hi
    rcases h with ⟨_, _, e, h2⟩ | ⟨b, off, cap, e, h2, h3, h4⟩
    · rw [h2] at hlm; simp at hlm; omega
    · simp at e
      exact ⟨b, off, e.1, h4 i _ (marks_get k0 n i hi)⟩
  clear h hlm
  have HC := Lib.hid hcell
  clear hcell
  go_enter Try.func42, Try.ntmps42
  go_wp2
  go_loopw [1, 5] (fun v i wr => ∃ k m : Nat, k ≤ n ∧ i = .int .i64 k ∧ v = .int .i64 (k0 + k) ∧ wr = w.drewN m) (fun _ i _ => n - (intOf i).toNat)
  case atStart => exact ⟨0, 0, Nat.zero_le _, rfl, by simp, rfl⟩
  case round =>
    obtain ⟨k, m, hkl, rfl, rfl, rfl⟩ := hrel
    by_cases hlt : k < n
    · obtain ⟨b, off, rfl, c1⟩ := HC.out k hlt
      go_wp2
      exact ⟨⟨k + 1, m, by omega, by go_num, by congr 1; omega, rfl⟩, by simp [intOf]; omega⟩
    · obtain rfl : k = n := by omega
      go_wp2
      go_ret
      exact ⟨rfl, m, rfl⟩
end Go.Proofs.Ythcaipohdeigeaa
