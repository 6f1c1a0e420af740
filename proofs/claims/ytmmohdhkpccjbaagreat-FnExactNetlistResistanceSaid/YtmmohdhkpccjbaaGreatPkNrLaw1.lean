/- Contracts and plain laws, part 1, for the statement's proof. -/
import Derived.Test.YtmmohdhkpccjbaaGreatRows
import Derived.WalkKit
import Derived.Deep.Draws
import Derived.Lib.Hide
import Derived.ProofKit
import Derived.OpenShut
import Derived.Lib.SmallJoins
import Derived.Deep.RegionHeld3
import Derived.Deep.QuietTactic
import Derived.BigQuiet
import Derived.Deep.RegionHeldLaw
import Derived.StillTail
import Derived.Deep.AppendSrc
import Derived.Laws.AppendOwn
import Derived.Lib.SliceRun
import Derived.BigRegion
import Derived.Deep.Slices
namespace Go.Proofs.YtmmohdhkpccjbaaGreat
open Go.RowKit
theorem below_drewN {B : Nat} {a w : World} (h : Below B a w) (n : Nat) : Below B a (w.drewN n) := h.trans ⟨rfl, rfl, rfl, Nat.le_refl _, fun _ _ => rfl⟩
theorem below_of_drewN (w : World) (n : Nat) : Below w.heap.size w (w.drewN n) := below_drewN (Below.refl _ _) n
theorem below_on {a W w1 : World} (hb : Below W.heap.size W w1) (h : Below a.heap.size a W) : Below a.heap.size a w1 := h.trans (hb.mono h.size)
theorem below_al {a W : World} (h : Below a.heap.size a W) (o : Obj) : Below a.heap.size a (W.alloc o) := h.alloc h.size o
theorem with_fact {p q : Prop} (hp : p) (k : p → q) : q := k hp
theorem ret_i64 {a b : Int} (h : a = b) : Ending.returned (.int .i64 a) = .returned (.int .i64 b) := by rw [h]
theorem ret_u64 {a b : Int} (h : a = b) : Ending.returned (.int .u64 a) = .returned (.int .u64 b) := by rw [h]
theorem ret_bool {a b : Bool} (h : a = b) : Ending.returned (.bool a) = .returned (.bool b) := by rw [h]
/- What the arguments' readings give: one opener a shape. -/
open Go.ChangeShapes Go.WideShapes Go.ChangeAt Go.RowKit Go.Joins
theorem wf_i64 {x : Int} (h : (Lit.int .i64 x).wf = true) : -9223372036854775808 ≤ x ∧ x ≤ 9223372036854775807 := by
  exact bounds_i64 h
/- Blocks of memory that a walk knows whole: carried over a callee's contract without any reckoning of sizes. -/
def Blk (w : World) (g : Nat) (cs : Array Value) (T : TypeId) : Prop := w.heap[g]? = some (.cells cs T (0, 0))
section
variable {w w1 : World} {g : Nat} {cs : Array Value} {T : TypeId}
theorem Blk.cell (h : Blk w g cs T) : ∀ o, w.cell? ⟨g, o, none⟩ = cs[o]? := fun o => by unfold Blk at h; simp [World.cell?, h]
theorem Blk.free (h : Blk w g cs T) : ∀ o, w.frozen? ⟨g, o, none⟩ = false := fun o => by unfold Blk at h; simp [World.frozen?, h]
theorem Blk.both (h : Blk w g cs T) : Blk w g cs T ∧ ∀ o, w.cell? ⟨g, o, none⟩ = cs[o]? := ⟨h, h.cell⟩
theorem Blk.lt (h : Blk w g cs T) : g < w.heap.size := by
  unfold Blk at h
  rcases Nat.lt_or_ge g w.heap.size with h' | h'
  · exact h'
  · rw [Array.getElem?_eq_none h'] at h; cases h
theorem Blk.by (hb : Below w.heap.size w w1) (h : Blk w g cs T) : Blk w1 g cs T := (hb.block g h.lt).trans h
theorem Blk.new (n : Nat) (hn : n = w.heap.size) : Blk (w.alloc (.cells cs T)) n cs T := by subst hn; unfold Blk World.alloc; simp
theorem Blk.past (h : Blk w g cs T) (o : Obj) : Blk (w.alloc o) g cs T := (Below.heap_alloc w o g h.lt).trans h
theorem Blk.drew (h : Blk w g cs T) : Blk w.drew g cs T := h
theorem Blk.drewN (h : Blk w g cs T) (n : Nat) : Blk (w.drewN n) g cs T := h
theorem Blk.set (h : Blk w g cs T) (o : Nat) (v : Value) : Blk (w.setCell ⟨g, o, none⟩ v) g (cs.setIfInBounds o v) T := by
  unfold Blk at *
  simp [World.setCell, Array.getElem?_modify, h]
theorem Blk.apart (h : Blk w g cs T) (b o : Nat) (v : Value) (hne : g ≠ b) : Blk (w.setCell ⟨b, o, none⟩ v) g cs T := by
  exact (Below.heap_setCell w ⟨b, o, none⟩ v g hne).trans h
theorem Blk.set2 {a b x y : Value} (h : Blk w g #[a, b] T) : Blk ((w.setCell ⟨g, 0, none⟩ x).setCell ⟨g, 1, none⟩ y) g #[x, y] T := (h.set 0 x).set 1 y
end
theorem blwT {B : Nat} {a w : World} (h : Below B a w := by ((repeat (first | (with_reducible exact Below.refl _ _) | (with_reducible refine below_drewN ?_ _) | (with_reducible refine Below.drew ?_) | (with_reducible refine below_al ?_ _) | (with_reducible refine below_on (by assumption) ?_) | ((with_reducible refine Below.setCell ?_ ?_ _); rotate_left; focus (first | omega | (simp; done) | (simp; omega))) | (with_reducible assumption))); done)) : Below B a w := h
theorem blkT {w : World} {g : Nat} {cs : Array Value} {T : TypeId} (h : Blk w g cs T := by ((repeat (first | (with_reducible assumption) | (with_reducible refine Blk.drewN ?_ _) | (with_reducible refine Blk.drew ?_) | ((with_reducible refine Blk.new _ ?_); focus (first | omega | (simp; done) | (simp; omega))) | (with_reducible refine Blk.past ?_ _) | ((with_reducible refine Blk.apart ?_ _ _ _ ?_); rotate_left; focus (first | omega | (simp; done) | (simp; omega))) | (with_reducible refine Blk.by (by assumption) ?_))); done)) : Blk w g cs T := h
/- Worlds in which one block alone has turned. -/
structure Only (g : Nat) (w w' : World) : Prop where
  os : w'.os = w.os
  tape : w'.tape = w.tape
  output : w'.output = w.output
  size : w'.heap.size = w.heap.size
  block : ∀ k, k ≠ g → w'.heap[k]? = w.heap[k]?
theorem Only.refl (g : Nat) (w : World) : Only g w w := ⟨rfl, rfl, rfl, rfl, fun _ _ => rfl⟩
theorem Only.set {g : Nat} {a w : World} (h : Only g a w) (o : Nat) (v : Value) : Only g a (w.setCell ⟨g, o, none⟩ v) :=
  ⟨h.os, h.tape, h.output, by simp [World.setCell, h.size], fun k hk => (Below.heap_setCell w ⟨g, o, none⟩ v k hk).trans (h.block k hk)⟩
theorem Only.drewN {g : Nat} {a w : World} (h : Only g a w) (n : Nat) : Only g a (w.drewN n) := ⟨h.os, h.tape, h.output, h.size, h.block⟩
theorem Only.below {g B : Nat} {a w w' : World} (h : Only g w w') (hb : Below B a w) (hg : B ≤ g) : Below B a w' :=
  hb.trans ⟨h.os, h.tape, h.output, Nat.le_of_eq h.size.symm, fun k hk => h.block k (by omega)⟩
theorem Only.blk {g f : Nat} {w w' : World} {cs : Array Value} {T : TypeId} (h : Only g w w') (hf : Blk w f cs T) (hne : f ≠ g) : Blk w' f cs T := (h.block f hne).trans hf
/- Slices of int64: what a walk knows of one, and the contracts of the functions of package laws over them. -/
set_option linter.unusedVariables false
set_option linter.unusedSimpArgs false
def IntSl (w : World) (sv : Value) (zs : List Int) : Prop :=
  (∃ a c, sv = .slice a 0 c ∧ zs = []) ∨ ∃ b off cap, sv = .slice (some ⟨b, off, none⟩) zs.length cap ∧ zs.length ≤ cap ∧ cap ≤ maxLen ∧ ∀ (i : Nat) (x : Int), zs[i]? = some x → w.cell? ⟨b, off + i, none⟩ = some (.int .i64 x)
def IBlk (w : World) (g : Nat) (zs : List Int) : Prop := ∃ cs : Array Value, Blk w g cs 2 ∧ cs.size = zs.length ∧ ∀ (i : Nat) (x : Int), zs[i]? = some x → cs[i]? = some (Value.int .i64 x)
def Fits (x : Int) : Prop := -9223372036854775808 ≤ x ∧ x ≤ 9223372036854775807
theorem cell_by' {w w1 : World} {p : Addr} {v : Value} (hb : Below w.heap.size w w1) (h : w.cell? p = some v) : w1.cell? p = some v := by
  have hlt : p.block < w.heap.size := by
    rcases Nat.lt_or_ge p.block w.heap.size with h' | h'
    · exact h'
    · simp [World.cell?, Array.getElem?_eq_none h'] at h
  rw [hb.cell hlt]; exact h
theorem IntSl.by {w w1 : World} {sv : Value} {zs : List Int} (hb : Below w.heap.size w w1) (h : IntSl w sv zs) : IntSl w1 sv zs := by
  rcases h with h | ⟨b, off, cap, h1, h2, h3, h4⟩
  · exact .inl h
  · exact .inr ⟨b, off, cap, h1, h2, h3, fun i x hx => cell_by' hb (h4 i x hx)⟩
theorem IntSl.len {w : World} {sv : Value} {zs : List Int} (h : IntSl w sv zs) : ∃ a c, sv = .slice a zs.length c := by
  rcases h with ⟨a, c, h1, h2⟩ | ⟨b, off, cap, h1, _⟩
  · subst h2; exact ⟨a, c, h1⟩
  · exact ⟨_, _, h1⟩
theorem IntSl.le {w : World} {sv : Value} {zs : List Int} (h : IntSl w sv zs) : zs.length ≤ 9223372036854775807 := by
  rcases h with ⟨a, c, h1, h2⟩ | ⟨b, off, cap, h1, h2, h3, _⟩
  · subst h2; simp
  · unfold maxLen at h3; omega
theorem IBlk.by {w w1 : World} {g : Nat} {zs : List Int} (hb : Below w.heap.size w w1) (h : IBlk w g zs) : IBlk w1 g zs := by
  obtain ⟨cs, h1, h2⟩ := h; exact ⟨cs, Blk.by hb h1, h2⟩
theorem IBlk.sl {w : World} {g : Nat} {zs : List Int} (h : IBlk w g zs) (hm : zs.length ≤ 9223372036854775807) : IntSl w (.slice (some ⟨g, 0, none⟩) zs.length zs.length) zs := by
  obtain ⟨cs, h1, h2, h3⟩ := h
  refine .inr ⟨g, 0, zs.length, rfl, Nat.le_refl _, by unfold maxLen; omega, fun i x hx => ?_⟩
  rw [Nat.zero_add, h1.cell]; exact h3 i x hx
theorem IBlk.alloc {w : World} {g : Nat} {zs : List Int} (h : IBlk w g zs) (o : Obj) : IBlk (w.alloc o) g zs := by
  obtain ⟨cs, h1, h2⟩ := h; exact ⟨cs, h1.past o, h2⟩
theorem IBlk.apart {w : World} {g : Nat} {zs : List Int} (h : IBlk w g zs) (b o : Nat) (v : Value) (hne : g ≠ b) : IBlk (w.setCell ⟨b, o, none⟩ v) g zs := by
  obtain ⟨cs, h1, h2⟩ := h; exact ⟨cs, h1.apart b o v hne, h2⟩
theorem IBlk.drewN {w : World} {g : Nat} {zs : List Int} (h : IBlk w g zs) (n : Nat) : IBlk (w.drewN n) g zs := by
  obtain ⟨cs, h1, h2⟩ := h; exact ⟨cs, h1.drewN n, h2⟩
theorem IBlk.lt {w : World} {g : Nat} {zs : List Int} (h : IBlk w g zs) : g < w.heap.size := by
  obtain ⟨cs, h1, h2⟩ := h; exact h1.lt
theorem infoI : (Tryz.prog.info? 2).map (fun i => (i.zero, i.size, i.bytes)) = some (some (.int .i64 0), 1, 8) := by kernel_rfl
theorem make_ints (n : Nat) (hn : n ≤ 1048576) (w : World) : ∃ cs : Array Value, cs.size = n ∧ (∀ i, i < n → cs[i]? = some (Value.int .i64 0)) ∧ (Instr.makeSlice 49 (.int .i64 n) (.int .i64 n)).run Tryz.prog w = .ok (.slice (some ⟨w.heap.size, 0, none⟩) n n) (w.alloc (.cells cs 2)) := by
  obtain ⟨i0, hi, hz0, hz1, hz2⟩ := info_parts infoI
  have h := run_make (P := Tryz.prog) w 49 2 i0 _ Tryz.underlying49 hi hz0 .i64 .i64 (n : Int) (n : Int) (by omega) (by omega) (by rw [hz2]; omega) (by omega)
  simp only [Int.toNat_natCast, hz1, Nat.mul_one] at h
  refine ⟨_, size_madeCells _ _, fun i hi => ?_, h⟩
  simp [madeCells, hi, Value.cells, Nat.mod_one]
theorem szInt64S_any (sv : Value) (zs : List Int) (l : Int) (w : World) (h : IntSl w sv zs) (hl : 0 ≤ l) (hl' : l ≤ 1048576) :
    Calls Tryz.prog 90 #[sv, .int .i64 l] w fun e w' => e = .returned (.int .i64 (if l < zs.length then -1 else l - zs.length)) ∧ w = w' := by
  obtain ⟨r, hr⟩ : ∃ r : Int, (if l < zs.length then (-1 : Int) else l - zs.length) = r := ⟨_, rfl⟩
  rw [hr]
  have HR := Lib.hid hr
  have hlen := h.le
  obtain ⟨a, c, rfl⟩ := h.len
  clear hr
  generalize zs.length = n at *
  clear h
  by_cases hlt : l < n
  · go_enter Tryz.func90, Tryz.ntmps90
    go_wp2
    go_ret
    exact ⟨ret_i64 (by rw [← HR.out, if_pos hlt]), rfl⟩
  · go_enter Tryz.func90, Tryz.ntmps90
    go_wp2
    go_ret
    exact ⟨ret_i64 (by rw [← HR.out, if_neg (by omega)]), rfl⟩
set_option maxRecDepth 100000 in
set_option maxHeartbeats 1000000 in
theorem toInt64S_any (sv : Value) (zs : List Int) (w : World) (h : IntSl w sv zs) (hn : zs.length ≤ 1048576) :
    Calls Tryz.prog 96 #[sv] w fun e w' => ∃ g, e = .returned (.slice (some ⟨g, 0, none⟩) zs.length zs.length) ∧ IBlk w' g zs ∧ w.heap.size ≤ g ∧ Below w.heap.size w w' := by
  rcases h with ⟨a, c, rfl, rfl⟩ | ⟨b, off, cap, rfl, h2, h3, h4⟩
  · obtain ⟨cs, hcs, _, hmk⟩ := make_ints 0 (by omega) w
    simp only [Int.natCast_zero] at hmk
    go_enter Tryz.func96, Tryz.ntmps96
    go_wp2
    go_loopw [4] (fun i wr => i = .int .i64 0 ∧ Blk wr w.heap.size cs 2 ∧ Below w.heap.size w wr) (fun _ _ => 0)
    case atStart => exact ⟨rfl, blkT, blwT⟩
    case round =>
      obtain ⟨rfl, hx, hb⟩ := hrel
      go_wp2
      go_ret
      exact ⟨w.heap.size, rfl, ⟨cs, hx, hcs, by simp⟩, Nat.le_refl _, hb⟩
  · obtain ⟨cs0, hcs0, _, hmk⟩ := make_ints zs.length hn w
    unfold maxLen at h3
    go_enter Tryz.func96, Tryz.ntmps96
    go_wp2
    clear hmk
    go_loopw [4] (fun i wr => ∃ k : Nat, k ≤ zs.length ∧ i = .int .i64 k ∧ (∃ cs : Array Value, Blk wr w.heap.size cs 2 ∧ cs.size = zs.length ∧ ∀ (j : Nat) (y : Int), j < k → zs[j]? = some y → cs[j]? = some (Value.int .i64 y)) ∧ Below w.heap.size w wr) (fun i _ => zs.length - (intOf i).toNat)
    case atStart => exact ⟨0, Nat.zero_le _, rfl, ⟨cs0, blkT, hcs0, by intro j y hj; omega⟩, blwT⟩
    case round =>
      obtain ⟨k, hk, rfl, ⟨cs, hB, hsz, hold⟩, hb⟩ := hrel
      by_cases hlt : k < zs.length
      · obtain ⟨x, hx⟩ : ∃ x, zs[k]? = some x := ⟨zs[k], List.getElem?_eq_getElem hlt⟩
        have c1 := cell_by' hb (h4 k x hx)
        have HS := Lib.hid hsz
        have HO := Lib.hid hold
        have HX := Lib.hid hx
        have hin : k < cs.size := by omega
        obtain ⟨u0_, d0⟩ : ∃ u, cs[k]? = some u := ⟨_, Array.getElem?_eq_getElem hin⟩
        clear hsz hold hx h4 hcs0
        have hBc := hB.cell
        have hBf := hB.free
        have i1 : (0 : Int) ≤ (k : Int) := by omega
        have i2 : (k : Int) < (zs.length : Int) := by omega
        go_wp2
        refine ⟨⟨k + 1, by omega, by go_num, ⟨cs.setIfInBounds k (.int .i64 x), hB.set _ _, by simp [HS.out], ?_⟩, blwT⟩, by simp [intOf]; omega⟩
        intro j y hj hy
        rw [Array.getElem?_setIfInBounds]
        by_cases hjk : k = j
        · subst hjk
          obtain rfl : y = x := Option.some.inj (hy.symm.trans HX.out)
          rw [if_pos rfl, if_pos hin]
        · rw [if_neg hjk]; exact HO.out j y (by omega) hy
      · go_wp2
        go_ret
        refine ⟨w.heap.size, rfl, ⟨cs, hB, hsz, fun i x hx => hold i x ?_ hx⟩, Nat.le_refl _, hb⟩
        have := (List.getElem?_eq_some_iff.1 hx).1
        omega
set_option maxRecDepth 100000 in
set_option maxHeartbeats 1000000 in
theorem eqInt64S_refl (s1 s2 : Value) (zs : List Int) (w : World) (h : IntSl w s1 zs) (h' : IntSl w s2 zs) :
    Calls Tryz.prog 116 #[s1, s2] w fun e w' => e = .returned (.bool true) ∧ ∃ n, w' = w.drewN n := by
  have hlen := h.le
  by_cases h0 : zs = []
  · subst h0
    obtain ⟨a, c, rfl⟩ := h.len
    obtain ⟨a', c', rfl⟩ := h'.len
    go_enter Tryz.func116, Tryz.ntmps116
    go_wp2
    go_loopw [5] (fun i wr => i = .int .i64 0 ∧ wr = w) (fun _ _ => 0)
    case atStart => exact ⟨rfl, rfl⟩
    case round =>
      obtain ⟨rfl, rfl⟩ := hrel
      go_wp2
      go_ret
      exact ⟨rfl, 0, rfl⟩
  · rcases h with ⟨_, _, _, h2⟩ | ⟨b, off, cap, rfl, h2, h3, h4⟩
    · exact absurd h2 h0
    rcases h' with ⟨_, _, _, h2'⟩ | ⟨b', off', cap', rfl, h2', h3', h4'⟩
    · exact absurd h2' h0
    clear h0
    unfold maxLen at h3 h3'
    go_enter Tryz.func116, Tryz.ntmps116
    go_wp2
    go_loopw [5] (fun i wr => ∃ k n : Nat, k ≤ zs.length ∧ i = .int .i64 k ∧ wr = w.drewN n) (fun i _ => zs.length - (intOf i).toNat)
    case atStart => exact ⟨0, 0, Nat.zero_le _, rfl, rfl⟩
    case round =>
      obtain ⟨k, n, hk, rfl, rfl⟩ := hrel
      by_cases hlt : k < zs.length
      · obtain ⟨x, hx⟩ : ∃ x, zs[k]? = some x := ⟨zs[k], List.getElem?_eq_getElem hlt⟩
        have c1 := h4 k x hx
        have c2 := h4' k x hx
        clear h4 h4' hx
        have i1 : (0 : Int) ≤ (k : Int) := by omega
        have i2 : (k : Int) < (zs.length : Int) := by omega
        go_wp2
        go_quiet (fail)
        go_wp2
        exact ⟨⟨k + 1, _, by omega, by go_num, rfl⟩, by simp [intOf]; omega⟩
      · go_wp2
        go_ret
        exact ⟨rfl, n, rfl⟩
/- The first place at which a predicate holds: plain. -/
def fidx {α : Type} (p : α → Bool) (xs : List α) : Int := match xs.findIdx? p with | some k => (k : Int) | none => -1
section
variable {α : Type} {p : α → Bool} {xs : List α}
theorem fidx_hit {k : Nat} {x : α} (hk : xs[k]? = some x) (hp : p x = true) (hb : ∀ j y, j < k → xs[j]? = some y → p y = false) : fidx p xs = k := by
  have : xs.findIdx? p = some k := by
    rw [List.findIdx?_eq_some_iff_getElem]
    obtain ⟨h, e⟩ := List.getElem?_eq_some_iff.1 hk
    refine ⟨h, by rw [e]; exact hp, fun j hj => ?_⟩
    have := hb j xs[j] hj (List.getElem?_eq_getElem (by omega))
    simp [this]
  simp [fidx, this]
theorem fidx_miss (hb : ∀ (j : Nat) y, xs[j]? = some y → p y = false) : fidx p xs = -1 := by
  have : xs.findIdx? p = none := by
    rw [List.findIdx?_eq_none_iff]
    intro x hx
    obtain ⟨j, hj, e⟩ := List.mem_iff_getElem.1 hx
    have := hb j x (by rw [List.getElem?_eq_getElem hj, e])
    simp [this]
  simp [fidx, this]
theorem fidx_any : decide (0 ≤ fidx p xs) = xs.any p := by
  unfold fidx
  cases h : xs.findIdx? p with
  | none =>
    rw [List.findIdx?_eq_none_iff] at h
    have : xs.any p = false := by rw [List.any_eq_false]; intro x hx; simp [h x hx]
    simp [this]
  | some k =>
    rw [List.findIdx?_eq_some_iff_getElem] at h
    obtain ⟨h, e, _⟩ := h
    have : xs.any p = true := by rw [List.any_eq_true]; exact ⟨_, List.getElem_mem h, e⟩
    simp [this]
end
/- Regions that draw their order and whose last operation stores into what they read: what must hold of the world need not hold behind that last operation. -/
section
variable {P : Program} {ops : Array Oper} {Q : Exit → Act → World → Prop} {md : Region.Mode} {S : World → Prop} {l : Nat}
def wpAnyE (P : Program) (md : Region.Mode) (ops : Array Oper) (Q : Exit → Act → World → Prop) (S : World → Prop) (l : Nat) : Nat → Array Bool → Act → World → Prop
  | 0, listed, a, w => Region.ready md ops listed = [] ∧ Q .normal a w
  | fuel + 1, listed, a, w =>
    (Region.ready md ops listed = [] → Q .normal a w) ∧
    ∀ i ∈ Region.ready md ops listed, wpOp P ops Q i (fun a' w' => (i ≠ l → S w') ∧ wpAnyE P md ops Q S l fuel (listed.setIfInBounds i true) a' w') a w
theorem wpAny_of_E : ∀ (fuel : Nat) (listed : Array Bool) (a : Act) (w : World), wpAnyE P md ops Q S l fuel listed a w → wpAny P md ops Q fuel listed a w
  | 0, _, _, _, h => h
  | fuel + 1, _, _, _, h => ⟨h.1, fun i hi => wpOp_mono (fun a' w' h' => wpAny_of_E fuel _ a' w' h'.2) (h.2 i hi)⟩
theorem wpAnyE_first {i : Nat} {oi : Oper} {v : Value} (hi : ops[i]? = some oi) (hsel : ∀ (j : Nat) (o : Oper) cs b, ops[j]? = some o → o.op ≠ .select cs b)
    (hQ : ∀ c a w, Q (.panic c) (a.put oi.dst v) w → Q (.panic c) a w) (hs : Region.sinkB md ops l = true) (hc : Region.chainB md ops l = true) (hn : l < ops.size) (hil : i < l) :
    ∀ (fuel : Nat) (listed : Array Bool) (a : Act) (w : World), HeadInv md ops l listed →
      (∀ j oj, ops[j]? = some oj → j ≠ i → listed.getD j true = false → (∀ e ∈ oj.after, Region.binds md e = true → e.on ≠ i) → oi.apart ops oj = true) →
      i ∈ Region.ready md ops listed → YieldsIf P ops S oi v a → S w →
      wpAnyE P md ops Q S l fuel (listed.setIfInBounds i true) (a.put oi.dst v) w → wpAnyE P md ops Q S l (fuel + 1) listed a w := by
  intro fuel
  induction fuel with
  | zero =>
    intro listed a w inv _ hr hy hS H
    refine ⟨fun h => (by rw [h] at hr; cases hr), fun j hj => ?_⟩
    by_cases hji : j = i
    · subst hji; exact hy.wpOp hi hS ⟨fun _ => hS, H⟩
    · have := ready_mono hj hji
      rw [H.1] at this
      cases this
  | succ fuel ih =>
    intro listed a w inv hfree hr hy hS H
    have hun := (mem_ready.1 hr).1
    refine ⟨fun h => (by rw [h] at hr; cases hr), fun j hj => ?_⟩
    have hjl : j < l := by
      rcases Nat.lt_or_ge j l with h | h
      · exact h
      · exact absurd hj (tail_waits hs hc hn inv _ i rfl hil hun j h)
    by_cases hji : j = i
    · subst hji; exact hy.wpOp hi hS ⟨fun _ => hS, H⟩
    · have h1 := H.2 j (ready_mono hj hji)
      obtain ⟨hjun, oj, hoj, hall⟩ := mem_ready.1 hj
      have hnot : ∀ e ∈ oj.after, Region.binds md e = true → e.on ≠ i := fun e he hb heq => by
        have h1 := hall e he hb
        rw [heq, getD_both hun] at h1
        cases h1
      have h2 := wpOp_putIf hoj (hfree j oj hoj hji hjun hnot) (fun cs b => hsel i oi cs b hi) (fun cs b => hsel j oj cs b hoj) hQ hy h1
      have hfree' : ∀ k ok, ops[k]? = some ok → k ≠ i → (listed.setIfInBounds j true).getD k true = false →
          (∀ e ∈ ok.after, Region.binds md e = true → e.on ≠ i) → oi.apart ops ok = true := fun k ok hk hki hun hno => by
        refine hfree k ok hk hki ?_ hno
        by_cases hjk : j = k
        · subst hjk; exact hjun
        · rw [getD_set_ne true hjk] at hun; exact hun
      refine wpOp_mono (fun a' w' h3 => ⟨h3.2.1, ih (listed.setIfInBounds j true) a' w' (inv.set hj hjl) hfree' (ready_mono hr (Ne.symm hji)) h3.1 (h3.2.1 (by omega)) ?_⟩) h2
      rw [Array.setIfInBounds_comm _ _ hji]
      exact h3.2.2
def headB (md : Region.Mode) (ops : Array Oper) (l : Nat) (listed : Array Bool) : Bool :=
  decide (listed.size = ops.size) && ((List.range ops.size).all fun j => !listed.getD j false || ((ops[j]?).map (·.after.all fun e => !Region.binds md e || listed.getD e.on false)).getD true) && ((List.range ops.size).all fun t => decide (t < l) || !listed.getD t true)
theorem headB_inv {listed : Array Bool} (h : headB md ops l listed = true) : HeadInv md ops l listed := by
  simp only [headB, Bool.and_eq_true, decide_eq_true_eq, List.all_eq_true, List.mem_range, Bool.or_eq_true, Bool.not_eq_true'] at h
  obtain ⟨⟨h1, h2⟩, h3⟩ := h
  refine ⟨h1, fun j oj hj hl e he hb => ?_, fun t ht ht' => ?_⟩
  · have hlt : j < ops.size := (Array.getElem?_eq_some_iff.1 hj).1
    rcases h2 j hlt with h | h
    · rw [hl] at h; cases h
    · rw [hj] at h
      simp only [Option.map_some, Option.getD_some, Array.all_eq_true_iff_forall_mem, Bool.or_eq_true, Bool.not_eq_true'] at h
      rcases h e he with h | h
      · rw [hb] at h; cases h
      · exact h
  · rcases h3 t ht' with h | h
    · omega
    · exact h
theorem wpAnyE_take {i : Nat} {oi : Oper} {v : Value} {fuel : Nat} {listed : Array Bool} {a : Act} {w : World} (hi : ops[i]? = some oi)
    (hk : (Region.noSelect ops && Region.free md ops listed i && (Region.ready md ops listed).contains i && headB md ops l listed && Region.sinkB md ops l && Region.chainB md ops l && decide (l < ops.size) && decide (i < l)) = true)
    (hQ : ∀ c a w, Q (.panic c) (a.put oi.dst v) w → Q (.panic c) a w) (hy : YieldsIf P ops S oi v a) (hS : S w)
    (h : wpAnyE P md ops Q S l fuel (listed.setIfInBounds i true) (a.put oi.dst v) w) : wpAnyE P md ops Q S l (fuel + 1) listed a w := by
  simp only [Bool.and_eq_true, decide_eq_true_eq] at hk
  obtain ⟨⟨⟨⟨⟨⟨⟨h1, h2⟩, h3⟩, h4⟩, h5⟩, h6⟩, h7⟩, h8⟩ := hk
  exact wpAnyE_first hi (Region.noSelect_spec h1) hQ h5 h6 h7 h8 fuel listed a w (headB_inv h4) (Region.free_spec hi h2) (by simpa using h3) hy hS h
theorem wpAnyE_one {k : Nat} {o : Oper} {fuel : Nat} {listed : Array Bool} {a : Act} {w : World} (hr : Region.ready md ops listed = [k]) (ho : ops[k]? = some o)
    (h : ∀ K' : Act → World → Prop, Shut (∀ a w, (k ≠ l → S w) → wpAnyE P md ops Q S l fuel (listed.setIfInBounds k true) a w → K' a w) → if Region.wanted o (yielded ops a.tmps) = true then Oper.wp P o a w K' Q else K' (a.put o.dst undef) w) :
    wpAnyE P md ops Q S l (fuel + 1) listed a w := by
  refine ⟨fun h0 => (by rw [h0] at hr; cases hr), fun i hi => ?_⟩
  rw [hr] at hi
  have hik : i = k := by simpa using hi
  subst hik
  exact wpOp_step ho (fun K' hK => h K' (fun a w hS hW => hK a w ⟨hS, hW⟩))
theorem wpAnyE_done {listed : Array Bool} {a : Act} {w : World} (hr : Region.ready md ops listed = []) (h : Q .normal a w) : ∀ fuel, wpAnyE P md ops Q S l fuel listed a w
  | 0 => ⟨hr, h⟩
  | _ + 1 => ⟨fun _ => h, by rw [hr]; simp⟩
end
set_option maxRecDepth 100000 in
set_option maxHeartbeats 1000000 in
theorem szDevice_any (kind wd len : Int) (sv : Value) (zs : List Int) (l : Int) (w : World) (h : IntSl w sv zs) (hl : 0 ≤ l) (hl' : l ≤ 1048576) :
    Calls Tryz.prog 46 #[.agg #[.int .i64 kind, sv, .int .i64 wd, .int .i64 len], .int .i64 l] w fun e w' => e = .returned (.int .i64 (if l < zs.length then -1 else l - zs.length)) ∧ Below w.heap.size w w' := by
  obtain ⟨r, hr⟩ : ∃ r : Int, (if l < zs.length then (-1 : Int) else l - zs.length) = r := ⟨_, rfl⟩
  have hsz := szInt64S_any sv zs l
  rw [hr] at hsz
  rw [hr]
  have hr1 : r = -1 ∨ 0 ≤ r := by rw [← hr]; split <;> omega
  have HS := Lib.hid hsz
  have h1 : IntSl (w.alloc (.cells #[.int .i64 kind, sv, .int .i64 wd, .int .i64 len] 82)) sv zs := h.by ((Below.refl _ _).alloc (Nat.le_refl _) _)
  obtain ⟨a, c, rfl⟩ := h.len
  clear hsz hr h
  rcases hr1 with rfl | hr1
  · go_enter Tryz.func46, Tryz.ntmps46
    go_wp2_with fail
    refine (HS.out _ h1 hl hl').mono ?_
    rintro e w' ⟨rfl, rfl⟩
    go_wp2
    go_ret
    exact ⟨rfl, blwT⟩
  · go_enter Tryz.func46, Tryz.ntmps46
    go_wp2_with fail
    refine (HS.out _ h1 hl hl').mono ?_
    rintro e w' ⟨rfl, rfl⟩
    go_wp2
    go_ret
    exact ⟨rfl, blwT⟩
set_option maxRecDepth 100000 in
set_option maxHeartbeats 1000000 in
theorem toDevice_any (kind wd len : Int) (sv : Value) (zs : List Int) (w : World) (h : IntSl w sv zs) (hn : zs.length ≤ 1048576) :
    Calls Tryz.prog 58 #[.agg #[.int .i64 kind, sv, .int .i64 wd, .int .i64 len]] w fun e w' => ∃ g, e = .returned (.agg #[.int .i64 kind, .slice (some ⟨g, 0, none⟩) zs.length zs.length, .int .i64 wd, .int .i64 len]) ∧ IBlk w' g zs ∧ w.heap.size ≤ g ∧ Below w.heap.size w w' := by
  have HT := Lib.hid (fun w h => toInt64S_any sv zs w h hn)
  have h1 := h.by ((((Below.refl _ w).alloc (Nat.le_refl _) (.cells #[.int .i64 kind, sv, .int .i64 wd, .int .i64 len] 82)).alloc (by simp) (.cells #[.int .i64 0, .slice none 0 0, .int .i64 0, .int .i64 0] 51)).alloc (by simp; omega) (.cells #[.int .i64 kind, .slice none 0 0, .int .i64 0, .int .i64 0] 51))
  obtain ⟨a, c, rfl⟩ := h.len
  clear h
  go_enter Tryz.func58, Tryz.ntmps58
  go_wp2_with fail
  refine (HT.out _ h1).mono ?_
  rintro e w1 ⟨g, rfl, hG, hge, hb1⟩
  clear h1
  have k0 : Blk w1 w.heap.size #[.int .i64 kind, .slice a zs.length c, .int .i64 wd, .int .i64 len] 82 := blkT
  have k1 : Blk w1 (w.heap.size + 1) #[.int .i64 0, .slice none 0 0, .int .i64 0, .int .i64 0] 51 := blkT
  have k2 : Blk w1 (w.heap.size + 1 + 1) #[.int .i64 kind, .slice none 0 0, .int .i64 0, .int .i64 0] 51 := blkT
  have c0 := k0.cell
  have c1 := k1.cell
  have f1 := k1.free
  have c2 := k2.cell
  have f2 := k2.free
  simp at hge
  go_wp2
  refine bodyPost_ret (v := .agg #[.int .i64 kind, .slice (some ⟨g, 0, none⟩) zs.length zs.length, .int .i64 wd, .int .i64 len]) (by simp [results, Tryz.results58, go_sem, *]) rfl ⟨g, rfl, ?_, by omega, blwT⟩
  repeat (first | (with_reducible exact hG) | ((with_reducible refine IBlk.apart ?_ _ _ _ ?_); rotate_left; focus omega))
set_option maxRecDepth 100000 in
set_option maxHeartbeats 1000000 in
theorem eqDevice_refl (kind wd len : Int) (s1 s2 : Value) (zs : List Int) (w : World) (h : IntSl w s1 zs) (h' : IntSl w s2 zs) :
    Calls Tryz.prog 73 #[.agg #[.int .i64 kind, s1, .int .i64 wd, .int .i64 len], .agg #[.int .i64 kind, s2, .int .i64 wd, .int .i64 len]] w fun e w' => e = .returned (.bool true) ∧ Below w.heap.size w w' := by
  have HT := Lib.hid (fun w h h' => eqInt64S_refl s1 s2 zs w h h')
  have hw := (((Below.refl _ w).alloc (Nat.le_refl _) (.cells #[.int .i64 kind, s1, .int .i64 wd, .int .i64 len] 51)).alloc (by simp) (.cells #[.int .i64 kind, s2, .int .i64 wd, .int .i64 len] 51))
  have h1 := h.by hw
  have h2 := h'.by hw
  obtain ⟨a, c, rfl⟩ := h.len
  obtain ⟨a', c', rfl⟩ := h'.len
  clear h h' hw
  go_enter Tryz.func73, Tryz.ntmps73
  go_wp2_with fail
  refine (HT.out _ h1 h2).mono ?_
  rintro e w1 ⟨rfl, m, rfl⟩
  go_wp2
  go_ret
  exact ⟨rfl, blwT⟩
/- The opener of a device that came in. -/
open Go.ChangeShapes Go.WideShapes Go.ChangeAt Go.RowKit Go.Joins Go.Deep
theorem addr_add (b off i : Nat) : (⟨b, off, none⟩ : Addr).add i = ⟨b, off + i, none⟩ := by
  by_cases h : i = 0 <;> simp [Addr.add, h]
theorem cellsDev : Tryz.prog.cellsOf 82 = 4 := by kernel_rfl
section
variable {H : Type} {enc : TypeId × Value → H} {W : World} {base : Nat} {spare : Nat → Bool} {held : Bool}
theorem ints_of_cell {fuel : Nat} {c : Value} {y : DataW H × List MemPlace} (h : DataW.trod enc Tryz.prog W base spare held fuel 49 [c] = some y) : ∃ zs : List Int, IntSl W c zs ∧ ∀ z ∈ zs, Fits z := by
  rcases open_ints Tryz.underlying49 Tryz.underlying2 (by kernel_rfl) h with ⟨hcs, _⟩ | ⟨x, len, cap, zs, hcs, _, hl, hm, hz, _, hcell, hwz⟩
  · simp at hcs
    subst hcs
    exact ⟨[], .inl ⟨_, _, rfl, rfl⟩, by simp⟩
  · simp at hcs
    subst hcs
    by_cases h0 : len = 0
    · subst h0
      exact ⟨[], .inl ⟨_, _, rfl, rfl⟩, by simp⟩
    · obtain ⟨b, off, spot⟩ := x
      have hzl : len ≤ zs.length := by rw [hz]; split <;> omega
      have hspot : spot = none := by simpa [Addr.add] using World.cell?_spot (hcell 0 (by omega))
      subst hspot
      refine ⟨zs.take len, .inr ⟨b, off, cap, by rw [List.length_take, Nat.min_eq_left hzl], by rw [List.length_take, Nat.min_eq_left hzl]; exact hl, hm, fun i x hx => ?_⟩, ?_⟩
      · have hi : i < len := by
          have := (List.getElem?_eq_some_iff.1 hx).1
          rw [List.length_take] at this; omega
        rw [List.getElem?_take_of_lt hi] at hx
        have hc := hcell i (by omega)
        rw [addr_add, List.getD_eq_getElem?_getD, hx] at hc
        exact hc
      · intro z hz
        exact bounds_i64 (hwz z (List.mem_of_mem_take hz))
end
/- Slices of devices: what a walk knows of one. -/
structure Dv where
  kind : Int
  pins : List Int
  wd : Int
  len : Int
def DvAt (w : World) (g o : Nat) (x : Dv) : Prop :=
  ∃ sv, w.cell? ⟨g, o, none⟩ = some (.int .i64 x.kind) ∧ w.cell? ⟨g, o + 1, none⟩ = some sv ∧ w.cell? ⟨g, o + 2, none⟩ = some (.int .i64 x.wd) ∧ w.cell? ⟨g, o + 3, none⟩ = some (.int .i64 x.len) ∧ IntSl w sv x.pins
def DvSl (w : World) (sv : Value) (xs : List Dv) : Prop :=
  (∃ a c, sv = .slice a 0 c ∧ xs = []) ∨ ∃ b off cap, sv = .slice (some ⟨b, off, none⟩) xs.length cap ∧ xs.length ≤ cap ∧ cap ≤ maxLen ∧ ∀ (i : Nat) (x : Dv), xs[i]? = some x → DvAt w b (off + i * 4) x
def Dv.ok (x : Dv) : Prop := Fits x.kind ∧ Fits x.wd ∧ Fits x.len ∧ ∀ z ∈ x.pins, Fits z
theorem DvAt.by {w w1 : World} {g o : Nat} {x : Dv} (hb : Below w.heap.size w w1) (h : DvAt w g o x) : DvAt w1 g o x := by
  obtain ⟨sv, h1, h2, h3, h4, h5⟩ := h
  exact ⟨sv, cell_by' hb h1, cell_by' hb h2, cell_by' hb h3, cell_by' hb h4, h5.by hb⟩
theorem DvSl.by {w w1 : World} {sv : Value} {xs : List Dv} (hb : Below w.heap.size w w1) (h : DvSl w sv xs) : DvSl w1 sv xs := by
  rcases h with h | ⟨b, off, cap, h1, h2, h3, h4⟩
  · exact .inl h
  · exact .inr ⟨b, off, cap, h1, h2, h3, fun i x hx => (h4 i x hx).by hb⟩
theorem DvSl.sized {w : World} {sv : Value} {xs : List Dv} (h : DvSl w sv xs) : ∃ a c, sv = .slice a xs.length c := by
  rcases h with ⟨a, c, h1, h2⟩ | ⟨b, off, cap, h1, _⟩
  · subst h2; exact ⟨a, c, h1⟩
  · exact ⟨_, _, h1⟩
def pinsAll : List Dv → Int
  | [] => 0
  | x :: xs => x.pins.length + pinsAll xs
theorem pinsAll_nonneg : ∀ xs : List Dv, 0 ≤ pinsAll xs
  | [] => by simp [pinsAll]
  | x :: xs => by have := pinsAll_nonneg xs; simp only [pinsAll]; omega
theorem pinsAll_take (xs : List Dv) (k : Nat) (x : Dv) (h : xs[k]? = some x) : pinsAll (xs.take (k + 1)) = pinsAll (xs.take k) + x.pins.length := by
  induction xs generalizing k with
  | nil => simp at h
  | cons y ys ih =>
    cases k with
    | zero => simp at h; subst h; simp [pinsAll]
    | succ k =>
      simp at h
      have := ih k h
      simp only [List.take_succ_cons, pinsAll]
      omega
theorem pinsAll_mono (xs : List Dv) (k : Nat) : pinsAll (xs.take k) ≤ pinsAll xs := by
  induction xs generalizing k with
  | nil => simp
  | cons y ys ih =>
    cases k with
    | zero => simp [pinsAll]; have := pinsAll_nonneg ys; omega
    | succ k => have := ih k; simp only [List.take_succ_cons, pinsAll]; omega
/- The size of a slice of devices. -/
set_option maxRecDepth 100000 in
set_option maxHeartbeats 2000000 in
theorem szDeviceS_any (sv : Value) (xs : List Dv) (l : Int) (w : World) (h : DvSl w sv xs) (hl : 0 ≤ l) (hl' : l ≤ 1048576) :
    Calls Tryz.prog 14 #[sv, .int .i64 l] w fun e w' => e = .returned (.int .i64 (if l < xs.length + pinsAll xs then -1 else l - xs.length - pinsAll xs)) ∧ Below w.heap.size w w' := by
  obtain ⟨r, hr⟩ : ∃ r : Int, (if l < xs.length + pinsAll xs then (-1 : Int) else l - xs.length - pinsAll xs) = r := ⟨_, rfl⟩
  rw [hr]
  have HR := Lib.hid hr
  clear hr
  have hpn := pinsAll_nonneg xs
  rcases h with ⟨a, c, rfl, rfl⟩ | ⟨b, off, cap, rfl, h2, h3, h4⟩
  · go_enter Tryz.func14, Tryz.ntmps14
    go_wp2
    go_loopw [1, 5] (fun v i wr => i = .int .i64 0 ∧ v = .int .i64 l ∧ wr = w) (fun _ _ _ => 0)
    case atStart => exact ⟨rfl, by simp, rfl⟩
    case round =>
      obtain ⟨rfl, rfl, rfl⟩ := hrel
      go_wp2
      go_ret
      exact ⟨ret_i64 (by rw [← HR.out]; simp [pinsAll]; omega), Below.refl _ _⟩
  · unfold maxLen at h3
    by_cases hbig : l < xs.length
    · clear h4
      go_enter Tryz.func14, Tryz.ntmps14
      go_wp2
      go_ret
      exact ⟨ret_i64 (by rw [← HR.out, if_pos (by omega)]), Below.refl _ _⟩
    · go_enter Tryz.func14, Tryz.ntmps14
      go_wp2
      go_loopw [1, 5] (fun v i wr => ∃ k : Nat, k ≤ xs.length ∧ i = .int .i64 k ∧ (∃ f : Int, v = .int .i64 f ∧ f = l - xs.length - pinsAll (xs.take k) ∧ 0 ≤ f) ∧ Below w.heap.size w wr) (fun _ i _ => xs.length - (intOf i).toNat)
      case atStart => exact ⟨0, Nat.zero_le _, rfl, ⟨_, rfl, by simp [pinsAll], by omega⟩, Below.refl _ _⟩
      case round =>
        obtain ⟨k, hk, rfl, ⟨f, rfl, hf, hf0⟩, hb⟩ := hrel
        by_cases hlt : k < xs.length
        · obtain ⟨x, hx⟩ : ∃ x, xs[k]? = some x := ⟨xs[k], List.getElem?_eq_getElem hlt⟩
          obtain ⟨sv, c1, c2, c3, c4, hS⟩ := (h4 k x hx).by hb
          have HT := Lib.hid (pinsAll_take xs k x hx)
          have HM := Lib.hid (pinsAll_mono xs (k + 1))
          have HK := Lib.hid (pinsAll_nonneg (xs.take k))
          have HF := Lib.hid hf
          have hfl : f ≤ 1048576 := by have := pinsAll_nonneg (xs.take k); omega
          have HZ := Lib.hid (fun w h => szDevice_any x.kind x.wd x.len sv x.pins f w h hf0 hfl)
          obtain ⟨a', c', rfl⟩ := hS.len
          clear h4 hx hf
          have i1 : (0 : Int) ≤ (k : Int) := by omega
          have i2 : (k : Int) < (xs.length : Int) := by omega
          by_cases hsm : f < x.pins.length
          · have HZ' := HZ.out
            simp only [if_pos hsm] at HZ'
            have HZ2 := Lib.hid HZ'
            clear HZ HZ'
            go_wp2_with fail
            refine (HZ2.out _ hS).mono ?_
            rintro e w1 ⟨rfl, hb1⟩
            go_wp2
            go_ret
            refine ⟨ret_i64 ?_, below_on hb1 hb⟩
            rw [← HR.out, if_pos]
            have := HT.out; have := HM.out; have := HF.out; omega
          · have HZ' := HZ.out
            simp only [if_neg hsm] at HZ'
            have HZ2 := Lib.hid HZ'
            clear HZ HZ'
            obtain ⟨f', hf'⟩ : ∃ f' : Int, f - x.pins.length = f' := ⟨_, rfl⟩
            rw [hf'] at HZ2
            have HF' := Lib.hid hf'
            have hf'0 : 0 ≤ f' := by omega
            clear hf' hsm
            go_wp2_with fail
            refine (HZ2.out _ hS).mono ?_
            rintro e w1 ⟨rfl, hb1⟩
            go_wp2
            exact ⟨⟨k + 1, by omega, by go_num, ⟨f', rfl, by have := HT.out; have := HF.out; have := HF'.out; omega, hf'0⟩, below_on hb1 hb⟩, by simp [intOf]; omega⟩
        · obtain rfl : k = xs.length := by omega
          rw [List.take_length] at hf
          go_wp2
          go_ret
          exact ⟨ret_i64 (by rw [← HR.out, if_neg (by omega)]; exact hf), hb⟩
/- toDeviceS: a slice of devices of the call's own. -/
def Cs4 (cs : Array Value) (i : Nat) (a b c d : Value) : Prop := cs[i * 4]? = some a ∧ cs[i * 4 + 1]? = some b ∧ cs[i * 4 + 2]? = some c ∧ cs[i * 4 + 3]? = some d
def put4 (cs : Array Value) (i : Nat) (a b c d : Value) : Array Value := (((cs.setIfInBounds (i * 4) a).setIfInBounds (i * 4 + 1) b).setIfInBounds (i * 4 + 2) c).setIfInBounds (i * 4 + 3) d
theorem size_put4 (cs : Array Value) (i : Nat) (a b c d : Value) : (put4 cs i a b c d).size = cs.size := by simp [put4]
theorem put4_same (cs : Array Value) (i : Nat) (a b c d : Value) (h : i * 4 + 4 ≤ cs.size) : Cs4 (put4 cs i a b c d) i a b c d := by
  refine ⟨?_, ?_, ?_, ?_⟩ <;> simp only [put4, Array.getElem?_setIfInBounds, Array.size_setIfInBounds] <;> repeat (first | rw [if_pos trivial] | rw [if_pos (by omega)] | rw [if_neg (by omega)])
theorem put4_other (cs : Array Value) (i j : Nat) (a b c d a' b' c' d' : Value) (hne : j ≠ i) (h : Cs4 cs j a' b' c' d') : Cs4 (put4 cs i a b c d) j a' b' c' d' := by
  obtain ⟨h1, h2, h3, h4⟩ := h
  refine ⟨?_, ?_, ?_, ?_⟩ <;> simp only [put4, Array.getElem?_setIfInBounds, Array.size_setIfInBounds] <;> (repeat rw [if_neg (by omega)]) <;> assumption
def DvIn (w : World) (g : Nat) (cs : Array Value) (i : Nat) (x : Dv) : Prop :=
  ∃ gp, g < gp ∧ IBlk w gp x.pins ∧ Cs4 cs i (.int .i64 x.kind) (.slice (some ⟨gp, 0, none⟩) x.pins.length x.pins.length) (.int .i64 x.wd) (.int .i64 x.len)
theorem DvIn.by {w w1 : World} {g : Nat} {cs : Array Value} {i : Nat} {x : Dv} (hb : Below w.heap.size w w1) (h : DvIn w g cs i x) : DvIn w1 g cs i x := by
  obtain ⟨gp, h1, h2, h3⟩ := h; exact ⟨gp, h1, h2.by hb, h3⟩
theorem DvIn.apart {w : World} {g : Nat} {cs : Array Value} {i : Nat} {x : Dv} (h : DvIn w g cs i x) (b o : Nat) (v : Value) (hb : b ≤ g) : DvIn (w.setCell ⟨b, o, none⟩ v) g cs i x := by
  obtain ⟨gp, h1, h2, h3⟩ := h; exact ⟨gp, h1, h2.apart _ _ _ (by omega), h3⟩
def DvBlk (w : World) (g : Nat) (xs : List Dv) : Prop := ∃ cs : Array Value, Blk w g cs 51 ∧ cs.size = xs.length * 4 ∧ ∀ (i : Nat) (x : Dv), xs[i]? = some x → DvIn w g cs i x
theorem DvBlk.by {w w1 : World} {g : Nat} {xs : List Dv} (hb : Below w.heap.size w w1) (h : DvBlk w g xs) : DvBlk w1 g xs := by
  obtain ⟨cs, h1, h2, h3⟩ := h; exact ⟨cs, Blk.by hb h1, h2, fun i x hx => (h3 i x hx).by hb⟩
theorem DvBlk.lt {w : World} {g : Nat} {xs : List Dv} (h : DvBlk w g xs) : g < w.heap.size := by
  obtain ⟨cs, h1, h2⟩ := h; exact h1.lt
theorem DvBlk.apart {w : World} {g : Nat} {xs : List Dv} (h : DvBlk w g xs) (b o : Nat) (v : Value) (hb : b < g) : DvBlk (w.setCell ⟨b, o, none⟩ v) g xs := by
  obtain ⟨cs, h1, h2, h3⟩ := h; exact ⟨cs, h1.apart b o v (by omega), h2, fun i x hx => (h3 i x hx).apart b o v (by omega)⟩
theorem infoDev : (Tryz.prog.info? 51).map (fun i => (i.zero, i.size, i.bytes)) = some (some (.agg #[.int .i64 0, .slice none 0 0, .int .i64 0, .int .i64 0]), 4, 48) := by kernel_rfl
theorem make_dev (n : Nat) (hn : n ≤ 1048576) (w : World) : ∃ cs : Array Value, cs.size = n * 4 ∧ (Instr.makeSlice 31 (.int .i64 n) (.int .i64 n)).run Tryz.prog w = .ok (.slice (some ⟨w.heap.size, 0, none⟩) n n) (w.alloc (.cells cs 51)) := by
  obtain ⟨i0, hi, hz0, hz1, hz2⟩ := info_parts infoDev
  have h := run_make (P := Tryz.prog) w 31 51 i0 _ Tryz.underlying31 hi hz0 .i64 .i64 (n : Int) (n : Int) (by omega) (by omega) (by rw [hz2]; omega) (by omega)
  simp only [Int.toNat_natCast, hz1] at h
  exact ⟨_, size_madeCells _ _, h⟩
set_option maxRecDepth 100000 in
set_option maxHeartbeats 2000000 in
theorem toDeviceS_any (sv : Value) (xs : List Dv) (w : World) (h : DvSl w sv xs) (hn : xs.length ≤ 1048576) (hpn : ∀ x ∈ xs, x.pins.length ≤ 1048576) :
    Calls Tryz.prog 22 #[sv] w fun e w' => ∃ g, e = .returned (.slice (some ⟨g, 0, none⟩) xs.length xs.length) ∧ DvBlk w' g xs ∧ w.heap.size ≤ g ∧ Below w.heap.size w w' := by
  rcases h with ⟨a, c, rfl, rfl⟩ | ⟨b, off, cap, rfl, h2, h3, h4⟩
  · obtain ⟨cs, hcs, hmk⟩ := make_dev 0 (by omega) w
    simp only [Int.natCast_zero] at hmk
    go_enter Tryz.func22, Tryz.ntmps22
    go_wp2
    go_loopw [4] (fun i wr => i = .int .i64 0 ∧ Blk wr w.heap.size cs 51 ∧ Below w.heap.size w wr) (fun _ _ => 0)
    case atStart => exact ⟨rfl, blkT, blwT⟩
    case round =>
      obtain ⟨rfl, hx, hb⟩ := hrel
      go_wp2
      go_ret
      exact ⟨w.heap.size, rfl, ⟨cs, hx, hcs, by simp⟩, Nat.le_refl _, hb⟩
  · obtain ⟨cs0, hcs0, hmk⟩ := make_dev xs.length hn w
    unfold maxLen at h3
    go_enter Tryz.func22, Tryz.ntmps22
    go_wp2
    clear hmk
    go_loopw [4] (fun i wr => ∃ k : Nat, k ≤ xs.length ∧ i = .int .i64 k ∧ (∃ cs : Array Value, Blk wr w.heap.size cs 51 ∧ cs.size = xs.length * 4 ∧ ∀ j y, j < k → xs[j]? = some y → DvIn wr w.heap.size cs j y) ∧ Below w.heap.size w wr) (fun i _ => xs.length - (intOf i).toNat)
    case atStart => exact ⟨0, Nat.zero_le _, rfl, ⟨cs0, blkT, hcs0, by intro j y hj; omega⟩, blwT⟩
    case round =>
      obtain ⟨k, hk, rfl, ⟨cs, hB, hsz, hold⟩, hb⟩ := hrel
      by_cases hlt : k < xs.length
      · obtain ⟨x, hx⟩ : ∃ x, xs[k]? = some x := ⟨xs[k], List.getElem?_eq_getElem hlt⟩
        obtain ⟨sv, c1, c2, c3, c4, hS⟩ := (h4 k x hx).by hb
        have HS := Lib.hid hsz
        have HO := Lib.hid hold
        have HX := Lib.hid hx
        have hxm : x.pins.length ≤ 1048576 := hpn x (List.mem_of_getElem? hx)
        have HT := Lib.hid (fun w h => toDevice_any x.kind x.wd x.len sv x.pins w h hxm)
        have hin : k * 4 + 4 ≤ cs.size := by omega
        have hlB := hB.lt
        obtain ⟨u0_, d0⟩ : ∃ u, cs[k * 4]? = some u := ⟨_, Array.getElem?_eq_getElem (by omega)⟩
        obtain ⟨u1_, d1⟩ : ∃ u, cs[k * 4 + 1]? = some u := ⟨_, Array.getElem?_eq_getElem (by omega)⟩
        obtain ⟨u2_, d2⟩ : ∃ u, cs[k * 4 + 2]? = some u := ⟨_, Array.getElem?_eq_getElem (by omega)⟩
        obtain ⟨u3_, d3⟩ : ∃ u, cs[k * 4 + 3]? = some u := ⟨_, Array.getElem?_eq_getElem (by omega)⟩
        obtain ⟨a', c', rfl⟩ := hS.len
        clear hsz hold hx h4 hcs0 hpn
        go_wp2_with fail
        refine (HT.out _ hS).mono ?_
        rintro e w1 ⟨gp, rfl, hG, hge, hb1⟩
        replace hB := Blk.by hb1 hB
        have hBc := hB.cell
        have hBf := hB.free
        go_wp2
        refine ⟨⟨k + 1, by omega, by go_num, ⟨put4 cs k (.int .i64 x.kind) (.slice (some ⟨gp, 0, none⟩) x.pins.length x.pins.length) (.int .i64 x.wd) (.int .i64 x.len), (((hB.set _ _).set _ _).set _ _).set _ _, by rw [size_put4]; exact HS.out, ?_⟩, blwT⟩, by simp [intOf]; omega⟩
        intro j y hj hy
        refine DvIn.apart (DvIn.apart (DvIn.apart (DvIn.apart ?_ _ _ _ (Nat.le_refl _)) _ _ _ (Nat.le_refl _)) _ _ _ (Nat.le_refl _)) _ _ _ (Nat.le_refl _)
        by_cases hjk : j = k
        · subst hjk
          have hxy := HX.out
          obtain rfl : y = x := Option.some.inj (hy.symm.trans hxy)
          exact ⟨gp, by omega, hG, put4_same cs j _ _ _ _ hin⟩
        · obtain ⟨gq, q1, q2, q3⟩ := HO.out j y (by omega) hy
          exact ⟨gq, q1, q2.by hb1, put4_other cs k j _ _ _ _ _ _ _ _ hjk q3⟩
      · go_wp2
        go_ret
        refine ⟨w.heap.size, rfl, ⟨cs, hB, hsz, fun i x hx => hold i x ?_ hx⟩, Nat.le_refl _, hb⟩
        have := (List.getElem?_eq_some_iff.1 hx).1
        omega
/- eqDeviceS over two slices that read alike. -/
theorem DvBlk.sl {w : World} {g : Nat} {xs : List Dv} (h : DvBlk w g xs) (hm : xs.length ≤ maxLen) (hp : ∀ x ∈ xs, x.pins.length ≤ 9223372036854775807) : DvSl w (.slice (some ⟨g, 0, none⟩) xs.length xs.length) xs := by
  obtain ⟨cs, h1, h2, h3⟩ := h
  refine .inr ⟨g, 0, xs.length, rfl, Nat.le_refl _, hm, fun i x hx => ?_⟩
  obtain ⟨gp, q1, q2, e1, e2, e3, e4⟩ := h3 i x hx
  have hc := h1.cell
  simp only [Nat.zero_add]
  exact ⟨_, by rw [hc]; exact e1, by rw [hc]; exact e2, by rw [hc]; exact e3, by rw [hc]; exact e4, q2.sl (hp x (List.mem_of_getElem? hx))⟩
set_option maxRecDepth 100000 in
set_option maxHeartbeats 2000000 in
theorem eqDeviceS_refl (s1 s2 : Value) (xs : List Dv) (w : World) (h : DvSl w s1 xs) (h' : DvSl w s2 xs) :
    Calls Tryz.prog 35 #[s1, s2] w fun e w' => e = .returned (.bool true) ∧ Below w.heap.size w w' := by
  by_cases h0 : xs = []
  · subst h0
    obtain ⟨a, c, rfl⟩ := h.sized
    obtain ⟨a', c', rfl⟩ := h'.sized
    go_enter Tryz.func35, Tryz.ntmps35
    go_wp2
    go_loopw [5] (fun i wr => i = .int .i64 0 ∧ Below w.heap.size w wr) (fun _ _ => 0)
    case atStart => exact ⟨rfl, blwT⟩
    case round =>
      obtain ⟨rfl, hb⟩ := hrel
      go_wp2
      go_ret
      exact ⟨rfl, hb⟩
  · rcases h with ⟨_, _, _, h2⟩ | ⟨b, off, cap, rfl, h2, h3, h4⟩
    · exact absurd h2 h0
    rcases h' with ⟨_, _, _, h2'⟩ | ⟨b', off', cap', rfl, h2', h3', h4'⟩
    · exact absurd h2' h0
    clear h0
    unfold maxLen at h3 h3'
    go_enter Tryz.func35, Tryz.ntmps35
    go_wp2
    go_loopw [5] (fun i wr => ∃ k : Nat, k ≤ xs.length ∧ i = .int .i64 k ∧ Below w.heap.size w wr) (fun i _ => xs.length - (intOf i).toNat)
    case atStart => exact ⟨0, Nat.zero_le _, rfl, blwT⟩
    case round =>
      obtain ⟨k, hk, rfl, hb⟩ := hrel
      by_cases hlt : k < xs.length
      · obtain ⟨x, hx⟩ : ∃ x, xs[k]? = some x := ⟨xs[k], List.getElem?_eq_getElem hlt⟩
        obtain ⟨sv, c1, c2, c3, c4, hS⟩ := (h4 k x hx).by hb
        obtain ⟨sv', d1, d2, d3, d4, hS'⟩ := (h4' k x hx).by hb
        have HT := Lib.hid (fun w h h' => eqDevice_refl x.kind x.wd x.len sv sv' x.pins w h h')
        obtain ⟨a, c, rfl⟩ := hS.len
        obtain ⟨a', c', rfl⟩ := hS'.len
        clear h4 h4' hx
        have i1 : (0 : Int) ≤ (k : Int) := by omega
        have i2 : (k : Int) < (xs.length : Int) := by omega
        go_wp2_with fail
        go_region_held3 (fun w' => (w'.cell? ⟨b, off + k * 4, none⟩ = some (.int .i64 x.kind) ∧ w'.cell? ⟨b, off + k * 4 + 1, none⟩ = some (.slice a x.pins.length c) ∧ w'.cell? ⟨b, off + k * 4 + 2, none⟩ = some (.int .i64 x.wd) ∧ w'.cell? ⟨b, off + k * 4 + 3, none⟩ = some (.int .i64 x.len)) ∧ (w'.cell? ⟨b', off' + k * 4, none⟩ = some (.int .i64 x.kind) ∧ w'.cell? ⟨b', off' + k * 4 + 1, none⟩ = some (.slice a' x.pins.length c') ∧ w'.cell? ⟨b', off' + k * 4 + 2, none⟩ = some (.int .i64 x.wd) ∧ w'.cell? ⟨b', off' + k * 4 + 3, none⟩ = some (.int .i64 x.len)) ∧ Below w.heap.size w w')
          (first | exact ⟨⟨c1, c2, c3, c4⟩, ⟨d1, d2, d3, d4⟩, hb.drew⟩ | exact ⟨⟨cell_by' hb1 c1, cell_by' hb1 c2, cell_by' hb1 c3, cell_by' hb1 c4⟩, ⟨cell_by' hb1 d1, cell_by' hb1 d2, cell_by' hb1 d3, cell_by' hb1 d4⟩, below_on hb1 hb.drew⟩)
          (first | (go_at_call 73; refine (HT.out _ (hS.by (below_of_drewN _ 1)) (hS'.by (below_of_drewN _ 1))).mono ?_; rintro e w1 ⟨rfl, hb1⟩))
        go_wp2
        exact ⟨⟨k + 1, by omega, by go_num, below_on hb1 hb.drew⟩, by simp [intOf]; omega⟩
      · go_wp2
        go_ret
        exact ⟨rfl, hb⟩
/- Contracts of the functions of package laws over a matching. -/
def MaV (w : World) (v : Value) (x : List Int × List Int) : Prop := ∃ s1 s2, v = .agg #[s1, s2] ∧ IntSl w s1 x.1 ∧ IntSl w s2 x.2
theorem MaV.by {w w1 : World} {v : Value} {x : List Int × List Int} (hb : Below w.heap.size w w1) (h : MaV w v x) : MaV w1 v x := by
  obtain ⟨s1, s2, h1, h2, h3⟩ := h; exact ⟨s1, s2, h1, h2.by hb, h3.by hb⟩
theorem MaV.sized {w : World} {v : Value} {x : List Int × List Int} (h : MaV w v x) : ∃ a c a' c', v = .agg #[.slice a x.1.length c, .slice a' x.2.length c'] := by
  obtain ⟨s1, s2, rfl, hd, hp⟩ := h
  obtain ⟨a, c, rfl⟩ := hd.len
  obtain ⟨a', c', rfl⟩ := hp.len
  exact ⟨a, c, a', c', rfl⟩
def OwnI (w : World) (lo : Nat) (sv : Value) (zs : List Int) : Prop :=
  (∃ a c, sv = .slice a 0 c ∧ zs = []) ∨ ∃ g cap, ∃ cs : Array Value, sv = .slice (some ⟨g, 0, none⟩) zs.length cap ∧ lo ≤ g ∧ zs.length ≤ cap ∧ cap ≤ maxLen ∧ Blk w g cs 2 ∧ ∀ (i : Nat) (x : Int), zs[i]? = some x → cs[i]? = some (Value.int .i64 x)
section
variable {w w1 : World} {lo : Nat} {sv : Value} {zs : List Int}
theorem OwnI.by (hb : Below w.heap.size w w1) (h : OwnI w lo sv zs) : OwnI w1 lo sv zs := by
  rcases h with h | ⟨g, cap, cs, h1, h2, h3, h4, h5, h6⟩
  · exact .inl h
  · exact .inr ⟨g, cap, cs, h1, h2, h3, h4, Blk.by hb h5, h6⟩
theorem OwnI.sl (h : OwnI w lo sv zs) : IntSl w sv zs := by
  rcases h with h | ⟨g, cap, cs, h1, h2, h3, h4, h5, h6⟩
  · exact .inl h
  · exact .inr ⟨g, 0, cap, h1, h3, h4, fun i x hx => by rw [Nat.zero_add, h5.cell]; exact h6 i x hx⟩
theorem OwnI.len (h : OwnI w lo sv zs) : ∃ a c, sv = .slice a zs.length c := h.sl.len
theorem OwnI.alloc (h : OwnI w lo sv zs) (o : Obj) : OwnI (w.alloc o) lo sv zs := h.by ((Below.refl _ w).alloc (Nat.le_refl _) o)
theorem OwnI.drewN (h : OwnI w lo sv zs) (n : Nat) : OwnI (w.drewN n) lo sv zs := h.by (below_of_drewN _ n)
theorem OwnI.low (h : OwnI w lo sv zs) {lo' : Nat} (hl : lo' ≤ lo) : OwnI w lo' sv zs := by
  rcases h with h | ⟨g, cap, cs, h1, h2, h3⟩
  · exact .inl h
  · exact .inr ⟨g, cap, cs, h1, Nat.le_trans hl h2, h3⟩
theorem OwnI.apart (h : OwnI w lo sv zs) (b o : Nat) (v : Value) (hb : b < lo) : OwnI (w.setCell ⟨b, o, none⟩ v) lo sv zs := by
  rcases h with h | ⟨g, cap, cs, h1, h2, h3, h4, h5, h6⟩
  · exact .inl h
  · exact .inr ⟨g, cap, cs, h1, h2, h3, h4, h5.apart b o v (by omega), h6⟩
theorem src_ints (h : IntSl w sv zs) : Src Tryz.prog 1 49 sv zs.length (zs.map (Value.int .i64)) w := by
  have h1 : ∀ u ∈ zs.map (Value.int .i64), u.oneCell' = true := by
    intro u hu
    obtain ⟨_, _, rfl⟩ := List.mem_map.1 hu
    rfl
  rcases h with ⟨a, c, rfl, rfl⟩ | ⟨b, off, cap, rfl, h2, h3, h4⟩
  · cases a with
    | none => exact Src.ofNil w Tryz.underlying49 c
    | some a => exact Src.ofSlice w Tryz.underlying49 a 0 c [] rfl (by simp) (by simp)
  · refine Src.ofSlice w Tryz.underlying49 _ _ _ _ (by simp) (fun j u hu => ?_) h1
    rw [List.getElem?_map] at hu
    obtain ⟨x, hx, rfl⟩ := Option.map_eq_some_iff.1 hu
    rw [Addr.add_lit]
    exact h4 j x hx
theorem clone_run (h : IntSl w sv zs) (hn : zs.length ≤ 1048576) (b : Nat) (ty : TypeId) (hlo : lo ≤ w.heap.size) :
    ∃ v w', (Builtin.append_ #[49, 49] ty #[.slice (some ⟨b, 0, none⟩) 0 0, sv]).run Tryz.prog w = .ok v w' ∧ OwnI w' lo v zs ∧ Below w.heap.size w w' := by
  obtain ⟨i0, hi, hz0, hz1, hz2⟩ := info_parts infoI
  have hS := src_ints h
  by_cases h0 : zs = []
  · subst h0
    have hr := run_append_room_src (P := Tryz.prog) w 49 49 ty 2 i0 Tryz.underlying49 hi b 0 0 0 sv 0 [] (by rw [hz1]; exact hS) (by omega) (by simp) (by simp)
    refine ⟨_, _, hr, .inl ⟨_, _, rfl, rfl⟩, ?_⟩
    exact Below.refl _ _
  · have hl : 0 < zs.length := List.length_pos_iff.2 h0
    have hr := run_append_grow_src (P := Tryz.prog) w 49 49 ty 2 i0 _ Tryz.underlying49 hi hz0 (some ⟨b, 0, none⟩) 0 0 [] (by rw [hz1]; exact run_firstCells_some w.drew 1 0 _ 0 0 [] rfl (by simp)) sv zs.length (zs.map (Value.int .i64)) (by rw [hz1]; exact hS) (by omega) (by omega)
      (by rw [hz2]; simp only [Builtin.nextslicecap, Nat.mul_zero, Nat.zero_add]; rw [if_pos (by omega)]; omega)
    refine ⟨_, _, hr, .inr ⟨w.heap.size, grownCap w (0 + zs.length) 0 2, _, by rw [Nat.zero_add], hlo, by have := grownCap_ge w (0 + zs.length) 0 2; omega, grownCap_le_maxLen _ _ _ _ (by unfold maxLen; omega), Blk.new _ rfl, ?_⟩, ((Below.refl _ _).drew).alloc (Nat.le_refl _) _⟩
    intro i x hx
    have hi := (List.getElem?_eq_some_iff.1 hx).1
    rw [Array.getElem?_append_left (by simpa using hi)]
    simp [hx]
end
theorem step_clone {ops : Array Oper} {o : Oper} {a : Act} {w : World} {K : Act → World → Prop} {Q : Exit → Act → World → Prop} {E : Prop} (hgd : o.guard = none) (s x : Operand)
    (ho : o.op = .call { callee := .builtin .append, args := #[s, x], argTypes := #[49, 49] })
    (b : Nat) (hs : a.eval s = .slice (some ⟨b, 0, none⟩) 0 0) (sv : Value) (zs : List Int) (hx : a.eval x = sv) (h : IntSl w sv zs) (hn : zs.length ≤ 1048576) (lo : Nat) (hlo : lo ≤ w.heap.size)
    (hK : ∀ v w', OwnI w' lo v zs → Below w.heap.size w w' → K (a.put o.dst v) w') :
    if Region.wanted o (yielded ops a.tmps) = true then Oper.wp Tryz.prog o a w K Q else E := by
  have hw : Region.wanted o (yielded ops a.tmps) = true := by simp [Region.wanted, hgd]
  rw [if_pos hw]
  obtain ⟨v, w', hr, h2, h3⟩ := clone_run h hn b o.type hlo
  unfold Oper.wp execOp
  simp only [ho, resolve, invoke, builtin, Sem.run_bind, Sem.run_pure, Result.andThen_ok, List.map_toArray, List.map_cons, List.map_nil, hs, hx, hr]
  exact hK v w' h2 h3
theorem list_clone {ops : Array Oper} {rest : List Oper} {o : Oper} {a : Act} {w : World} {Q : Exit → Act → World → Prop} (hgd : o.guard = none) (s x : Operand)
    (ho : o.op = .call { callee := .builtin .append, args := #[s, x], argTypes := #[49, 49] })
    (b : Nat) (hs : a.eval s = .slice (some ⟨b, 0, none⟩) 0 0) (sv : Value) (zs : List Int) (hx : a.eval x = sv) (h : IntSl w sv zs) (hn : zs.length ≤ 1048576) (lo : Nat) (hlo : lo ≤ w.heap.size)
    (hK : ∀ v w', OwnI w' lo v zs → Below w.heap.size w w' → wpList Tryz.prog ops Q rest (a.put o.dst v) w') : wpList Tryz.prog ops Q (o :: rest) a w :=
  wpList_plain hgd fun _ hK' => by
    obtain ⟨v, w', hr, h2, h3⟩ := clone_run h hn b o.type hlo
    unfold Oper.wp execOp
    simp only [ho, resolve, invoke, builtin, Sem.run_bind, Sem.run_pure, Result.andThen_ok, List.map_toArray, List.map_cons, List.map_nil, hs, hx, hr]
    exact hK' _ _ (hK v w' h2 h3)
/- Copies of devices. -/
set_option maxRecDepth 100000 in
set_option maxHeartbeats 1000000 in
theorem own_any (kind wd len : Int) (sv : Value) (zs : List Int) (w : World) (h : IntSl w sv zs) (hn : zs.length ≤ 1048576) :
    Calls Tryz.prog 52 #[.agg #[.int .i64 kind, sv, .int .i64 wd, .int .i64 len]] w fun e w' => ∃ v, e = .returned (.agg #[.int .i64 kind, v, .int .i64 wd, .int .i64 len]) ∧ OwnI w' w.heap.size v zs ∧ Below w.heap.size w w' := by
  obtain ⟨a, c, rfl⟩ := h.len
  go_enter Tryz.func52, Tryz.ntmps52
  go_wp2_with fail
  go_region_held_law ((fun w' => (Blk w' (w.heap.size) #[.int .i64 kind, .slice a zs.length c, .int .i64 wd, .int .i64 len] 51 ∧ ∀ o, w'.cell? ⟨w.heap.size, o, none⟩ = (#[.int .i64 kind, .slice a zs.length c, .int .i64 wd, .int .i64 len] : Array Value)[o]?) ∧ Below w.heap.size w w')) (((try (obtain ⟨⟨hS0, _⟩, hSB⟩ := hHeld)); refine ⟨Blk.both ?_, ?_⟩ <;> first | ((repeat (first | (with_reducible assumption) | (with_reducible refine Blk.drewN ?_ _) | (with_reducible refine Blk.drew ?_) | ((with_reducible refine Blk.new _ ?_); focus (first | omega | (simp; done) | (simp; omega))) | (with_reducible refine Blk.past ?_ _) | ((with_reducible refine Blk.apart ?_ _ _ _ ?_); rotate_left; focus (first | omega | (simp; done) | (simp; omega))) | (with_reducible refine Blk.by (by assumption) ?_))); done) | ((repeat (first | (with_reducible exact Below.refl _ _) | (with_reducible refine below_drewN ?_ _) | (with_reducible refine Below.drew ?_) | (with_reducible refine below_al ?_ _) | (with_reducible refine below_on (by assumption) ?_) | ((with_reducible refine Below.setCell ?_ ?_ _); rotate_left; focus (first | omega | (simp; done) | (simp; omega))) | (with_reducible assumption))); done)))
    ((refine step_clone (by rfl) _ _ (by rfl) _ (by rfl) _ zs (by rfl) (h.by blwT) hn (w.heap.size + 2) (by simp; try omega) ?_; intro v w3 hO hb3; obtain ⟨a1, c1, rfl⟩ := hO.len; have k2 : Blk w3 (w.heap.size + 1) #[.int .i64 0, .slice none 0 0, .int .i64 0, .int .i64 0] 51 := blkT; have c2 := k2.cell; have f2 := k2.free; have l2 := k2.lt))
  go_wp2
  refine bodyPost_ret (v := .agg #[.int .i64 kind, .slice a1 zs.length c1, .int .i64 wd, .int .i64 len]) (by simp [results, Tryz.results52, go_sem, *]) rfl ⟨_, rfl, ?_, blwT⟩
  refine OwnI.low ?_ (show w.heap.size ≤ w.heap.size + 2 by omega)
  repeat (first | (with_reducible exact hO) | ((with_reducible refine OwnI.apart ?_ _ _ _ ?_); rotate_left; focus omega))
set_option maxRecDepth 100000 in
set_option maxHeartbeats 1000000 in
theorem clone_any (sv : Value) (zs : List Int) (w : World) (h : IntSl w sv zs) (hn : zs.length ≤ 1048576) :
    Calls Tryz.prog 118 #[sv] w fun e w' => ∃ v, e = .returned v ∧ OwnI w' w.heap.size v zs ∧ Below w.heap.size w w' := by
  obtain ⟨a, c, rfl⟩ := h.len
  have q22 : ∀ (w : World) (a : Option Addr) (n c n' c' : Nat), (binOp .eql 49 (.slice a n c) (.slice none n' c')).run Tryz.prog w = .ok (.bool a.isNone) w := fun w a n c n' c' => Lib.run_eql_slice_nil w _ _ a n c n' c' Tryz.underlying49
  cases a with
  | none =>
    have hz : zs = [] := by
      rcases h with ⟨_, _, _, h2⟩ | ⟨b, off, cap, h1, _⟩
      · exact h2
      · simp at h1
    subst hz
    go_enter Tryz.func118, Tryz.ntmps118
    go_wp2
    refine bodyPost_ret (v := .slice none 0 0) (by simp [results, Tryz.results118, go_sem, *]) rfl ⟨_, rfl, .inl ⟨_, _, rfl, rfl⟩, blwT⟩
  | some ad =>
    go_enter Tryz.func118, Tryz.ntmps118
    go_wp2_with ((refine list_clone (by rfl) _ _ (by rfl) _ (by rfl) _ zs (by rfl) (h.by blwT) hn w.heap.size (by simp; try omega) ?_; intro v w3 hO hb3; obtain ⟨a1, c1, rfl⟩ := hO.len))
    refine bodyPost_ret (v := .slice a1 zs.length c1) (by simp [results, Tryz.results118, go_sem, *]) rfl ⟨_, rfl, hO, blwT⟩
set_option maxRecDepth 100000 in
set_option maxHeartbeats 1000000 in
theorem copyDevice_any (kind wd len : Int) (sv : Value) (zs : List Int) (w : World) (h : IntSl w sv zs) (hn : zs.length ≤ 1048576) :
    Calls Tryz.prog 78 #[.agg #[.int .i64 kind, sv, .int .i64 wd, .int .i64 len]] w fun e w' => ∃ v, e = .returned (.agg #[.int .i64 kind, v, .int .i64 wd, .int .i64 len]) ∧ OwnI w' w.heap.size v zs ∧ Below w.heap.size w w' := by
  have HC := Lib.hid (fun w h => clone_any sv zs w h hn)
  have h1 := h.by (((Below.refl _ w).alloc (Nat.le_refl _) (.cells #[.int .i64 kind, sv, .int .i64 wd, .int .i64 len] 51)).alloc (by simp) (.cells #[.int .i64 0, .slice none 0 0, .int .i64 0, .int .i64 0] 51))
  obtain ⟨a, c, rfl⟩ := h.len
  clear h
  go_enter Tryz.func78, Tryz.ntmps78
  go_wp2_with fail
  refine (HC.out _ h1).mono ?_
  rintro e w1 ⟨v, rfl, hO, hb1⟩
  clear h1
  have k0 : Blk w1 w.heap.size #[.int .i64 kind, .slice a zs.length c, .int .i64 wd, .int .i64 len] 51 := blkT
  have k1 : Blk w1 (w.heap.size + 1) #[.int .i64 0, .slice none 0 0, .int .i64 0, .int .i64 0] 51 := blkT
  have c0 := k0.cell
  have f0 := k0.free
  have l0 := k0.lt
  have c1 := k1.cell
  have f1 := k1.free
  have l1 := k1.lt
  obtain ⟨a1, c1, rfl⟩ := hO.len
  simp at hO
  go_wp2
  refine bodyPost_ret (v := .agg #[.int .i64 kind, .slice a1 zs.length c1, .int .i64 wd, .int .i64 len]) (by simp [results, Tryz.results78, go_sem, *]) rfl ⟨_, rfl, ?_, blwT⟩
  refine OwnI.low ?_ (show w.heap.size ≤ w.heap.size + 2 by omega)
  repeat (first | (with_reducible exact hO) | ((with_reducible refine OwnI.apart ?_ _ _ _ ?_); rotate_left; focus omega))
/- The shape of a device. -/
def pinc (kind : Int) : Int := if kind = 0 then 3 else if kind = 1 then 3 else if kind = 2 then 2 else 0
theorem pinCount_any (kind : Int) (w : World) : Calls Tryz.prog 86 #[.int .i64 kind] w fun e w' => e = .returned (.int .i64 (pinc kind)) ∧ w = w' := by
  obtain ⟨r, hr⟩ : ∃ r, pinc kind = r := ⟨_, rfl⟩
  rw [hr]
  have HR := Lib.hid hr
  clear hr
  by_cases h0 : kind = 0
  · subst h0
    go_enter Tryz.func86, Tryz.ntmps86
    go_wp2
    go_ret
    exact ⟨ret_i64 (by rw [← HR.out]; rfl), rfl⟩
  by_cases h1 : kind = 1
  · subst h1
    go_enter Tryz.func86, Tryz.ntmps86
    go_wp2
    go_ret
    exact ⟨ret_i64 (by rw [← HR.out]; rfl), rfl⟩
  by_cases h2 : kind = 2
  · subst h2
    go_enter Tryz.func86, Tryz.ntmps86
    go_wp2
    go_ret
    exact ⟨ret_i64 (by rw [← HR.out]; rfl), rfl⟩
  go_enter Tryz.func86, Tryz.ntmps86
  go_wp2
  go_ret
  exact ⟨ret_i64 (by rw [← HR.out, pinc, if_neg h0, if_neg h1, if_neg h2]), rfl⟩
set_option maxRecDepth 100000 in
theorem l28First_any (kind wd len : Int) (a : Option Addr) (k c : Nat) (hn : k ≤ 1048576) (w : World) : Calls Tryz.prog 92 #[.agg #[.int .i64 kind, .slice a (k + 2) c, .int .i64 wd, .int .i64 len]] w fun e w' => e = .returned (.int .i64 k) ∧ Below w.heap.size w w' := by
  go_enter Tryz.func92, Tryz.ntmps92
  go_wp2
  go_ret
  exact ⟨ret_i64 (by omega), blwT⟩
/- The reference's NormalizeDevice. -/
/- The reference's NormalizeDevice: the last two in order. -/
structure Within (lo hi : Nat) (w w' : World) : Prop where
  os : w'.os = w.os
  tape : w'.tape = w.tape
  output : w'.output = w.output
  size : w.heap.size ≤ w'.heap.size
  block : ∀ k, k < w.heap.size → (k < lo ∨ hi ≤ k) → w'.heap[k]? = w.heap[k]?
section
variable {lo hi : Nat} {a w w' : World}
theorem Within.refl (lo hi : Nat) (w : World) : Within lo hi w w := ⟨rfl, rfl, rfl, Nat.le_refl _, fun _ _ _ => rfl⟩
theorem Within.set (h : Within lo hi a w) (g o : Nat) (v : Value) (h1 : lo ≤ g) (h2 : g < hi) : Within lo hi a (w.setCell ⟨g, o, none⟩ v) :=
  ⟨h.os, h.tape, h.output, by simp [World.setCell]; exact h.size, fun k hk hk' => (Below.heap_setCell w ⟨g, o, none⟩ v k (by simp; omega)).trans (h.block k hk hk')⟩
theorem Within.new (h : Within lo hi a w) (g o : Nat) (v : Value) (h1 : a.heap.size ≤ g) : Within lo hi a (w.setCell ⟨g, o, none⟩ v) :=
  ⟨h.os, h.tape, h.output, by simp [World.setCell]; exact h.size, fun k hk hk' => (Below.heap_setCell w ⟨g, o, none⟩ v k (by simp; omega)).trans (h.block k hk hk')⟩
theorem Within.alloc (h : Within lo hi a w) (o : Obj) : Within lo hi a (w.alloc o) :=
  ⟨h.os, h.tape, h.output, by have := h.size; simp; omega, fun k hk hk' => (Below.heap_alloc w o k (by have := h.size; omega)).trans (h.block k hk hk')⟩
theorem Within.drewN (h : Within lo hi a w) (n : Nat) : Within lo hi a (w.drewN n) := ⟨h.os, h.tape, h.output, h.size, h.block⟩
theorem Within.on (h : Within lo hi a w) (h' : Within lo hi w w') : Within lo hi a w' :=
  ⟨h'.os.trans h.os, h'.tape.trans h.tape, h'.output.trans h.output, Nat.le_trans h.size h'.size, fun k hk hk' => (h'.block k (Nat.lt_of_lt_of_le hk h.size) hk').trans (h.block k hk hk')⟩
theorem Within.blk {f : Nat} {cs : Array Value} {T : TypeId} (h : Within lo hi w w') (hf : Blk w f cs T) (hne : f < lo ∨ hi ≤ f) : Blk w' f cs T := (h.block f hf.lt hne).trans hf
theorem Within.below (h : Within lo hi w w') (hb : Below a.heap.size a w) (hl : a.heap.size ≤ lo) : Below a.heap.size a w' :=
  hb.trans ⟨h.os, h.tape, h.output, h.size, fun k hk => h.block k (Nat.lt_of_lt_of_le hk hb.size) (.inl (by omega))⟩
def OwnR (w : World) (lo hi : Nat) (sv : Value) (zs : List Int) : Prop :=
  (∃ a c, sv = .slice a 0 c ∧ zs = []) ∨ ∃ g cap, ∃ cs : Array Value, sv = .slice (some ⟨g, 0, none⟩) zs.length cap ∧ lo ≤ g ∧ g < hi ∧ zs.length ≤ cap ∧ cap ≤ maxLen ∧ Blk w g cs 2 ∧ ∀ (i : Nat) (x : Int), zs[i]? = some x → cs[i]? = some (Value.int .i64 x)
variable {sv : Value} {zs : List Int}
theorem OwnR.by (hb : Below w.heap.size w w') (h : OwnR w lo hi sv zs) : OwnR w' lo hi sv zs := by
  rcases h with h | ⟨g, cap, cs, h1, h2, h2', h3, h4, h5, h6⟩
  · exact .inl h
  · exact .inr ⟨g, cap, cs, h1, h2, h2', h3, h4, Blk.by hb h5, h6⟩
theorem OwnR.past {lo' hi' : Nat} (hb : Within lo' hi' w w') (h : OwnR w lo hi sv zs) (hd : hi ≤ lo' ∨ hi' ≤ lo) : OwnR w' lo hi sv zs := by
  rcases h with h | ⟨g, cap, cs, h1, h2, h2', h3, h4, h5, h6⟩
  · exact .inl h
  · exact .inr ⟨g, cap, cs, h1, h2, h2', h3, h4, hb.blk h5 (by omega), h6⟩
theorem OwnR.sl (h : OwnR w lo hi sv zs) : IntSl w sv zs := by
  rcases h with h | ⟨g, cap, cs, h1, h2, h2', h3, h4, h5, h6⟩
  · exact .inl h
  · exact .inr ⟨g, 0, cap, h1, h3, h4, fun i x hx => by rw [Nat.zero_add, h5.cell]; exact h6 i x hx⟩
end
/- The reference's NormalizeDevice: one contract. -/
structure Pt where
  name : ByteArray
  net : Int
def PtAt (w : World) (g o : Nat) (x : Pt) : Prop :=
  w.cell? ⟨g, o, none⟩ = some (.string x.name) ∧ w.cell? ⟨g, o + 1, none⟩ = some (.int .i64 x.net)
def PtSl (w : World) (sv : Value) (xs : List Pt) : Prop :=
  (∃ a c, sv = .slice a 0 c ∧ xs = []) ∨ ∃ b off cap, sv = .slice (some ⟨b, off, none⟩) xs.length cap ∧ xs.length ≤ cap ∧ cap ≤ maxLen ∧ ∀ (i : Nat) (x : Pt), xs[i]? = some x → PtAt w b (off + i * 2) x
theorem PtAt.by {w w1 : World} {g o : Nat} {x : Pt} (hb : Below w.heap.size w w1) (h : PtAt w g o x) : PtAt w1 g o x := ⟨cell_by' hb h.1, cell_by' hb h.2⟩
theorem PtSl.by {w w1 : World} {sv : Value} {xs : List Pt} (hb : Below w.heap.size w w1) (h : PtSl w sv xs) : PtSl w1 sv xs := by
  rcases h with h | ⟨b, off, cap, h1, h2, h3, h4⟩
  · exact .inl h
  · exact .inr ⟨b, off, cap, h1, h2, h3, fun i x hx => (h4 i x hx).by hb⟩
theorem PtSl.sized {w : World} {sv : Value} {xs : List Pt} (h : PtSl w sv xs) : ∃ a c, sv = .slice a xs.length c := by
  rcases h with ⟨a, c, h1, h2⟩ | ⟨b, off, cap, h1, _⟩
  · subst h2; exact ⟨a, c, h1⟩
  · exact ⟨_, _, h1⟩
/- Contracts of the functions of package laws over a port. -/
set_option maxRecDepth 100000 in
set_option maxHeartbeats 1000000 in
theorem szPort_any (name : ByteArray) (net : Int) (l : Int) (w : World) (hn : name.size ≤ 9223372036854775807) (hl : 0 ≤ l) (hl' : l ≤ 1048576) :
    Calls Tryz.prog 47 #[.agg #[.string name, .int .i64 net], .int .i64 l] w fun e w' => e = .returned (.int .i64 (if l < name.size then -1 else l - name.size)) ∧ Below w.heap.size w w' := by
  obtain ⟨r, hr⟩ : ∃ r : Int, (if l < name.size then (-1 : Int) else l - name.size) = r := ⟨_, rfl⟩
  rw [hr]
  have HR := Lib.hid hr
  clear hr
  by_cases hlt : l < name.size
  · go_enter Tryz.func47, Tryz.ntmps47
    go_wp2
    go_ret
    exact ⟨ret_i64 (by rw [← HR.out, if_pos hlt]), blwT⟩
  · go_enter Tryz.func47, Tryz.ntmps47
    go_wp2
    go_ret
    exact ⟨ret_i64 (by rw [← HR.out, if_neg (by omega)]), blwT⟩
set_option maxRecDepth 100000 in
set_option maxHeartbeats 1000000 in
theorem toPort_any (name : ByteArray) (net : Int) (w : World) :
    Calls Tryz.prog 59 #[.agg #[.string name, .int .i64 net]] w fun e w' => e = .returned (.agg #[.string name, .int .i64 net]) ∧ Below w.heap.size w w' := by
  go_enter Tryz.func59, Tryz.ntmps59
  go_wp2
  exact bodyPost_ret (v := .agg #[.string name, .int .i64 net]) (by simp [results, Tryz.results59, go_sem, *]) rfl ⟨rfl, blwT⟩
set_option maxRecDepth 100000 in
set_option maxHeartbeats 1000000 in
theorem eqPort_refl (name : ByteArray) (net : Int) (w : World) :
    Calls Tryz.prog 74 #[.agg #[.string name, .int .i64 net], .agg #[.string name, .int .i64 net]] w fun e w' => e = .returned (.bool true) ∧ Below w.heap.size w w' := by
  go_enter Tryz.func74, Tryz.ntmps74
  go_wp2
  go_ret
  exact ⟨rfl, blwT⟩
/- The size of a slice of ports. -/
def namesAll : List Pt → Int
  | [] => 0
  | x :: xs => x.name.size + namesAll xs
theorem namesAll_nonneg : ∀ xs : List Pt, 0 ≤ namesAll xs
  | [] => by simp [namesAll]
  | x :: xs => by have := namesAll_nonneg xs; simp only [namesAll]; omega
theorem namesAll_take (xs : List Pt) (k : Nat) (x : Pt) (h : xs[k]? = some x) : namesAll (xs.take (k + 1)) = namesAll (xs.take k) + x.name.size := by
  induction xs generalizing k with
  | nil => simp at h
  | cons y ys ih =>
    cases k with
    | zero => simp at h; subst h; simp [namesAll]
    | succ k =>
      simp at h
      have := ih k h
      simp only [List.take_succ_cons, namesAll]
      omega
theorem namesAll_mono (xs : List Pt) (k : Nat) : namesAll (xs.take k) ≤ namesAll xs := by
  induction xs generalizing k with
  | nil => simp
  | cons y ys ih =>
    cases k with
    | zero => simp [namesAll]; have := namesAll_nonneg ys; omega
    | succ k => have := ih k; simp only [List.take_succ_cons, namesAll]; omega
def Pt.ok (x : Pt) : Prop := x.name.size ≤ 9223372036854775807 ∧ Fits x.net
set_option maxRecDepth 100000 in
set_option maxHeartbeats 2000000 in
theorem szPortS_any (sv : Value) (xs : List Pt) (l : Int) (w : World) (h : PtSl w sv xs) (hok : ∀ x ∈ xs, x.ok) (hl : 0 ≤ l) (hl' : l ≤ 1048576) :
    Calls Tryz.prog 15 #[sv, .int .i64 l] w fun e w' => e = .returned (.int .i64 (if l < xs.length + namesAll xs then -1 else l - xs.length - namesAll xs)) ∧ Below w.heap.size w w' := by
  obtain ⟨r, hr⟩ : ∃ r : Int, (if l < xs.length + namesAll xs then (-1 : Int) else l - xs.length - namesAll xs) = r := ⟨_, rfl⟩
  rw [hr]
  have HR := Lib.hid hr
  clear hr
  have hpn := namesAll_nonneg xs
  rcases h with ⟨a, c, rfl, rfl⟩ | ⟨b, off, cap, rfl, h2, h3, h4⟩
  · go_enter Tryz.func15, Tryz.ntmps15
    go_wp2
    go_loopw [1, 5] (fun v i wr => i = .int .i64 0 ∧ v = .int .i64 l ∧ wr = w) (fun _ _ _ => 0)
    case atStart => exact ⟨rfl, by simp, rfl⟩
    case round =>
      obtain ⟨rfl, rfl, rfl⟩ := hrel
      go_wp2
      go_ret
      exact ⟨ret_i64 (by rw [← HR.out]; simp [namesAll]; omega), Below.refl _ _⟩
  · unfold maxLen at h3
    by_cases hbig : l < xs.length
    · clear h4
      go_enter Tryz.func15, Tryz.ntmps15
      go_wp2
      go_ret
      exact ⟨ret_i64 (by rw [← HR.out, if_pos (by omega)]), Below.refl _ _⟩
    · have HOK := Lib.hid hok
      clear hok
      go_enter Tryz.func15, Tryz.ntmps15
      go_wp2
      go_loopw [1, 5] (fun v i wr => ∃ k : Nat, k ≤ xs.length ∧ i = .int .i64 k ∧ (∃ f : Int, v = .int .i64 f ∧ f = l - xs.length - namesAll (xs.take k) ∧ 0 ≤ f) ∧ Below w.heap.size w wr) (fun _ i _ => xs.length - (intOf i).toNat)
      case atStart => exact ⟨0, Nat.zero_le _, rfl, ⟨_, rfl, by simp [namesAll], by omega⟩, Below.refl _ _⟩
      case round =>
        obtain ⟨k, hk, rfl, ⟨f, rfl, hf, hf0⟩, hb⟩ := hrel
        by_cases hlt : k < xs.length
        · obtain ⟨x, hx⟩ : ∃ x, xs[k]? = some x := ⟨xs[k], List.getElem?_eq_getElem hlt⟩
          obtain ⟨c1, c2⟩ := (h4 k x hx).by hb
          have HT := Lib.hid (namesAll_take xs k x hx)
          have HM := Lib.hid (namesAll_mono xs (k + 1))
          have HF := Lib.hid hf
          have hfl : f ≤ 1048576 := by have := namesAll_nonneg (xs.take k); omega
          have HZ := Lib.hid (fun w => szPort_any x.name x.net f w (HOK.out x (List.mem_of_getElem? hx)).1 hf0 hfl)
          clear h4 hx hf
          have i1 : (0 : Int) ≤ (k : Int) := by omega
          have i2 : (k : Int) < (xs.length : Int) := by omega
          by_cases hsm : f < x.name.size
          · have HZ' := HZ.out
            simp only [if_pos hsm] at HZ'
            have HZ2 := Lib.hid HZ'
            clear HZ HZ'
            go_wp2_with fail
            refine (HZ2.out _).mono ?_
            rintro e w1 ⟨rfl, hb1⟩
            go_wp2
            go_ret
            refine ⟨ret_i64 ?_, below_on hb1 hb⟩
            rw [← HR.out, if_pos]
            have := HT.out; have := HM.out; have := HF.out; omega
          · have HZ' := HZ.out
            simp only [if_neg hsm] at HZ'
            have HZ2 := Lib.hid HZ'
            clear HZ HZ'
            obtain ⟨f', hf'⟩ : ∃ f' : Int, f - x.name.size = f' := ⟨_, rfl⟩
            rw [hf'] at HZ2
            have HF' := Lib.hid hf'
            have hf'0 : 0 ≤ f' := by omega
            clear hf' hsm
            go_wp2_with fail
            refine (HZ2.out _).mono ?_
            rintro e w1 ⟨rfl, hb1⟩
            go_wp2
            exact ⟨⟨k + 1, by omega, by go_num, ⟨f', rfl, by have := HT.out; have := HF.out; have := HF'.out; omega, hf'0⟩, below_on hb1 hb⟩, by simp [intOf]; omega⟩
        · obtain rfl : k = xs.length := by omega
          rw [List.take_length] at hf
          go_wp2
          go_ret
          exact ⟨ret_i64 (by rw [← HR.out, if_neg (by omega)]; exact hf), hb⟩
/- toPortS and eqPortS. -/
def Cs2 (cs : Array Value) (i : Nat) (a b : Value) : Prop := cs[i * 2]? = some a ∧ cs[i * 2 + 1]? = some b
def put2 (cs : Array Value) (i : Nat) (a b : Value) : Array Value := (cs.setIfInBounds (i * 2) a).setIfInBounds (i * 2 + 1) b
theorem size_put2 (cs : Array Value) (i : Nat) (a b : Value) : (put2 cs i a b).size = cs.size := by simp [put2]
theorem put2_same (cs : Array Value) (i : Nat) (a b : Value) (h : i * 2 + 2 ≤ cs.size) : Cs2 (put2 cs i a b) i a b := by
  refine ⟨?_, ?_⟩ <;> simp only [put2, Array.getElem?_setIfInBounds, Array.size_setIfInBounds] <;> repeat (first | rw [if_pos trivial] | rw [if_pos (by omega)] | rw [if_neg (by omega)])
theorem put2_other (cs : Array Value) (i j : Nat) (a b a' b' : Value) (hne : j ≠ i) (h : Cs2 cs j a' b') : Cs2 (put2 cs i a b) j a' b' := by
  obtain ⟨h1, h2⟩ := h
  refine ⟨?_, ?_⟩ <;> simp only [put2, Array.getElem?_setIfInBounds, Array.size_setIfInBounds] <;> (repeat rw [if_neg (by omega)]) <;> assumption
def PtBlk (w : World) (g : Nat) (xs : List Pt) : Prop := ∃ cs : Array Value, Blk w g cs 89 ∧ cs.size = xs.length * 2 ∧ ∀ (i : Nat) (x : Pt), xs[i]? = some x → Cs2 cs i (.string x.name) (.int .i64 x.net)
theorem PtBlk.by {w w1 : World} {g : Nat} {xs : List Pt} (hb : Below w.heap.size w w1) (h : PtBlk w g xs) : PtBlk w1 g xs := by
  obtain ⟨cs, h1, h2⟩ := h; exact ⟨cs, Blk.by hb h1, h2⟩
theorem PtBlk.apart {w : World} {g : Nat} {xs : List Pt} (h : PtBlk w g xs) (b o : Nat) (v : Value) (hb : g ≠ b) : PtBlk (w.setCell ⟨b, o, none⟩ v) g xs := by
  obtain ⟨cs, h1, h2⟩ := h; exact ⟨cs, h1.apart b o v hb, h2⟩
theorem PtBlk.sl {w : World} {g : Nat} {xs : List Pt} (h : PtBlk w g xs) (hm : xs.length ≤ maxLen) : PtSl w (.slice (some ⟨g, 0, none⟩) xs.length xs.length) xs := by
  obtain ⟨cs, h1, h2, h3⟩ := h
  refine .inr ⟨g, 0, xs.length, rfl, Nat.le_refl _, hm, fun i x hx => ?_⟩
  obtain ⟨e1, e2⟩ := h3 i x hx
  have hc := h1.cell
  simp only [Nat.zero_add]
  exact ⟨by rw [hc]; exact e1, by rw [hc]; exact e2⟩
theorem infoPt : (Tryz.prog.info? 89).map (fun i => (i.zero, i.size, i.bytes)) = some (some (.agg #[.string ByteArray.empty, .int .i64 0]), 2, 24) := by kernel_rfl
theorem make_pt (n : Nat) (hn : n ≤ 1048576) (w : World) : ∃ cs : Array Value, cs.size = n * 2 ∧ (Instr.makeSlice 32 (.int .i64 n) (.int .i64 n)).run Tryz.prog w = .ok (.slice (some ⟨w.heap.size, 0, none⟩) n n) (w.alloc (.cells cs 89)) := by
  obtain ⟨i0, hi, hz0, hz1, hz2⟩ := info_parts infoPt
  have h := run_make (P := Tryz.prog) w 32 89 i0 _ Tryz.underlying32 hi hz0 .i64 .i64 (n : Int) (n : Int) (by omega) (by omega) (by rw [hz2]; omega) (by omega)
  simp only [Int.toNat_natCast, hz1] at h
  exact ⟨_, size_madeCells _ _, h⟩
/- toPortS and eqPortS: the walks. -/
set_option maxRecDepth 100000 in
set_option maxHeartbeats 2000000 in
theorem toPortS_any (sv : Value) (xs : List Pt) (w : World) (h : PtSl w sv xs) (hn : xs.length ≤ 1048576) :
    Calls Tryz.prog 23 #[sv] w fun e w' => ∃ g, e = .returned (.slice (some ⟨g, 0, none⟩) xs.length xs.length) ∧ PtBlk w' g xs ∧ w.heap.size ≤ g ∧ Below w.heap.size w w' := by
  rcases h with ⟨a, c, rfl, rfl⟩ | ⟨b, off, cap, rfl, h2, h3, h4⟩
  · obtain ⟨cs, hcs, hmk⟩ := make_pt 0 (by omega) w
    simp only [Int.natCast_zero] at hmk
    go_enter Tryz.func23, Tryz.ntmps23
    go_wp2
    go_loopw [4] (fun i wr => i = .int .i64 0 ∧ Blk wr w.heap.size cs 89 ∧ Below w.heap.size w wr) (fun _ _ => 0)
    case atStart => exact ⟨rfl, blkT, blwT⟩
    case round =>
      obtain ⟨rfl, hx, hb⟩ := hrel
      go_wp2
      go_ret
      exact ⟨w.heap.size, rfl, ⟨cs, hx, hcs, by simp⟩, Nat.le_refl _, hb⟩
  · obtain ⟨cs0, hcs0, hmk⟩ := make_pt xs.length hn w
    unfold maxLen at h3
    go_enter Tryz.func23, Tryz.ntmps23
    go_wp2
    clear hmk
    go_loopw [4] (fun i wr => ∃ k : Nat, k ≤ xs.length ∧ i = .int .i64 k ∧ (∃ cs : Array Value, Blk wr w.heap.size cs 89 ∧ cs.size = xs.length * 2 ∧ ∀ j y, j < k → xs[j]? = some y → Cs2 cs j (.string y.name) (.int .i64 y.net)) ∧ Below w.heap.size w wr) (fun i _ => xs.length - (intOf i).toNat)
    case atStart => exact ⟨0, Nat.zero_le _, rfl, ⟨cs0, blkT, hcs0, by intro j y hj; omega⟩, blwT⟩
    case round =>
      obtain ⟨k, hk, rfl, ⟨cs, hB, hsz, hold⟩, hb⟩ := hrel
      by_cases hlt : k < xs.length
      · obtain ⟨x, hx⟩ : ∃ x, xs[k]? = some x := ⟨xs[k], List.getElem?_eq_getElem hlt⟩
        obtain ⟨c1, c2⟩ := (h4 k x hx).by hb
        have HS := Lib.hid hsz
        have HO := Lib.hid hold
        have HX := Lib.hid hx
        have hin : k * 2 + 2 ≤ cs.size := by omega
        obtain ⟨u0_, d0⟩ : ∃ u, cs[k * 2]? = some u := ⟨_, Array.getElem?_eq_getElem (by omega)⟩
        obtain ⟨u1_, d1⟩ : ∃ u, cs[k * 2 + 1]? = some u := ⟨_, Array.getElem?_eq_getElem (by omega)⟩
        clear hsz hold hx h4 hcs0
        go_wp2_with fail
        refine (toPort_any x.name x.net _).mono ?_
        rintro e w1 ⟨rfl, hb1⟩
        replace hB := Blk.by hb1 hB
        have hBc := hB.cell
        have hBf := hB.free
        go_wp2
        refine ⟨⟨k + 1, by omega, by go_num, ⟨put2 cs k (.string x.name) (.int .i64 x.net), (hB.set _ _).set _ _, by rw [size_put2]; exact HS.out, ?_⟩, blwT⟩, by simp [intOf]; omega⟩
        intro j y hj hy
        by_cases hjk : j = k
        · subst hjk
          have hxy := HX.out
          obtain rfl : y = x := Option.some.inj (hy.symm.trans hxy)
          exact put2_same cs j _ _ hin
        · exact put2_other cs k j _ _ _ _ hjk (HO.out j y (by omega) hy)
      · go_wp2
        go_ret
        refine ⟨w.heap.size, rfl, ⟨cs, hB, hsz, fun i x hx => hold i x ?_ hx⟩, Nat.le_refl _, hb⟩
        have := (List.getElem?_eq_some_iff.1 hx).1
        omega
set_option maxRecDepth 100000 in
set_option maxHeartbeats 2000000 in
theorem eqPortS_refl (s1 s2 : Value) (xs : List Pt) (w : World) (h : PtSl w s1 xs) (h' : PtSl w s2 xs) :
    Calls Tryz.prog 36 #[s1, s2] w fun e w' => e = .returned (.bool true) ∧ Below w.heap.size w w' := by
  by_cases h0 : xs = []
  · subst h0
    obtain ⟨a, c, rfl⟩ := h.sized
    obtain ⟨a', c', rfl⟩ := h'.sized
    go_enter Tryz.func36, Tryz.ntmps36
    go_wp2
    go_loopw [5] (fun i wr => i = .int .i64 0 ∧ Below w.heap.size w wr) (fun _ _ => 0)
    case atStart => exact ⟨rfl, blwT⟩
    case round =>
      obtain ⟨rfl, hb⟩ := hrel
      go_wp2
      go_ret
      exact ⟨rfl, hb⟩
  · rcases h with ⟨_, _, _, h2⟩ | ⟨b, off, cap, rfl, h2, h3, h4⟩
    · exact absurd h2 h0
    rcases h' with ⟨_, _, _, h2'⟩ | ⟨b', off', cap', rfl, h2', h3', h4'⟩
    · exact absurd h2' h0
    clear h0
    unfold maxLen at h3 h3'
    go_enter Tryz.func36, Tryz.ntmps36
    go_wp2
    go_loopw [5] (fun i wr => ∃ k : Nat, k ≤ xs.length ∧ i = .int .i64 k ∧ Below w.heap.size w wr) (fun i _ => xs.length - (intOf i).toNat)
    case atStart => exact ⟨0, Nat.zero_le _, rfl, blwT⟩
    case round =>
      obtain ⟨k, hk, rfl, hb⟩ := hrel
      by_cases hlt : k < xs.length
      · obtain ⟨x, hx⟩ : ∃ x, xs[k]? = some x := ⟨xs[k], List.getElem?_eq_getElem hlt⟩
        obtain ⟨c1, c2⟩ := (h4 k x hx).by hb
        obtain ⟨d1, d2⟩ := (h4' k x hx).by hb
        clear h4 h4' hx
        have i1 : (0 : Int) ≤ (k : Int) := by omega
        have i2 : (k : Int) < (xs.length : Int) := by omega
        go_wp2_with fail
        go_region_held3 (fun w' => (w'.cell? ⟨b, off + k * 2, none⟩ = some (.string x.name) ∧ w'.cell? ⟨b, off + k * 2 + 1, none⟩ = some (.int .i64 x.net)) ∧ (w'.cell? ⟨b', off' + k * 2, none⟩ = some (.string x.name) ∧ w'.cell? ⟨b', off' + k * 2 + 1, none⟩ = some (.int .i64 x.net)) ∧ Below w.heap.size w w')
          (first | exact ⟨⟨c1, c2⟩, ⟨d1, d2⟩, hb.drew⟩ | exact ⟨⟨cell_by' hb1 c1, cell_by' hb1 c2⟩, ⟨cell_by' hb1 d1, cell_by' hb1 d2⟩, below_on hb1 hb.drew⟩)
          (first | (go_at_call 74; refine (eqPort_refl x.name x.net _).mono ?_; rintro e w1 ⟨rfl, hb1⟩))
        go_wp2
        exact ⟨⟨k + 1, by omega, by go_num, below_on hb1 hb.drew⟩, by simp [intOf]; omega⟩
      · go_wp2
        go_ret
        exact ⟨rfl, hb⟩
/- Contracts of the functions of package laws over netlists. -/
def nlSize (ds : List Dv) (ps : List Pt) : Int := ds.length + pinsAll ds + ps.length + namesAll ps
set_option maxRecDepth 100000 in
set_option maxHeartbeats 1000000 in
theorem szNetlist_any (nets : Int) (s1 s2 : Value) (ds : List Dv) (ps : List Pt) (l : Int) (w : World) (h : DvSl w s1 ds) (h' : PtSl w s2 ps) (hok : ∀ x ∈ ps, x.ok) (hl : 0 ≤ l) (hl' : l ≤ 1048576) :
    Calls Tryz.prog 5 #[.agg #[.int .i64 nets, s1, s2], .int .i64 l] w fun e w' => e = .returned (.int .i64 (if l < nlSize ds ps then -1 else l - nlSize ds ps)) ∧ Below w.heap.size w w' := by
  obtain ⟨r, hr⟩ : ∃ r : Int, (if l < nlSize ds ps then (-1 : Int) else l - nlSize ds ps) = r := ⟨_, rfl⟩
  rw [hr]
  have hw := (Below.refl _ w).alloc (Nat.le_refl _) (.cells #[.int .i64 nets, s1, s2] 25)
  have h1 := h.by hw
  have h2 := h'.by hw
  have hSD := fun w h => szDeviceS_any s1 ds l w h hl hl'
  obtain ⟨a, c, rfl⟩ := h.sized
  obtain ⟨a', c', rfl⟩ := h'.sized
  have hn1 := pinsAll_nonneg ds
  have hn2 := namesAll_nonneg ps
  by_cases hb : l < ds.length + pinsAll ds
  · simp only [if_pos hb] at hSD
    have HS := Lib.hid hSD
    have HR := Lib.hid (show (-1 : Int) = r by rw [← hr, if_pos (by unfold nlSize; omega)])
    clear hr hSD
    go_enter Tryz.func5, Tryz.ntmps5
    go_wp2_with fail
    refine (HS.out _ h1).mono ?_
    rintro e w1 ⟨rfl, hb1⟩
    go_wp2
    go_ret
    exact ⟨ret_i64 HR.out, blwT⟩
  · simp only [if_neg hb] at hSD
    obtain ⟨m, hm⟩ : ∃ m : Int, l - ds.length - pinsAll ds = m := ⟨_, rfl⟩
    have hm0 : 0 ≤ m := by omega
    have hm1 : m ≤ 1048576 := by omega
    rw [hm] at hSD
    have HS := Lib.hid hSD
    have hSP := fun w h => szPortS_any (.slice a' ps.length c') ps m w h hok hm0 hm1
    by_cases hb' : m < ps.length + namesAll ps
    · simp only [if_pos hb'] at hSP
      have HP := Lib.hid hSP
      have HR := Lib.hid (show (-1 : Int) = r by rw [← hr, if_pos (by unfold nlSize; omega)])
      clear hr hSD hSP hm hb'
      go_enter Tryz.func5, Tryz.ntmps5
      go_wp2_with fail
      refine (HS.out _ h1).mono ?_
      rintro e w1 ⟨rfl, hb1⟩
      have k0 : Blk w1 w.heap.size #[.int .i64 nets, .slice a ds.length c, .slice a' ps.length c'] 25 := blkT
      have c0 := k0.cell
      go_wp2_with fail
      refine (HP.out _ (h2.by hb1)).mono ?_
      rintro e w2 ⟨rfl, hb2⟩
      go_wp2
      go_ret
      exact ⟨ret_i64 HR.out, blwT⟩
    · simp only [if_neg hb'] at hSP
      have HR := Lib.hid (show m - ps.length - namesAll ps = r by rw [← hr, if_neg (by unfold nlSize; omega)]; unfold nlSize; omega)
      obtain ⟨q, hq⟩ : ∃ q : Int, m - ps.length - namesAll ps = q := ⟨_, rfl⟩
      have hq0 : 0 ≤ q := by omega
      rw [hq] at hSP HR
      have HP := Lib.hid hSP
      clear hr hSD hSP hm hb' hq
      go_enter Tryz.func5, Tryz.ntmps5
      go_wp2_with fail
      refine (HS.out _ h1).mono ?_
      rintro e w1 ⟨rfl, hb1⟩
      have k0 : Blk w1 w.heap.size #[.int .i64 nets, .slice a ds.length c, .slice a' ps.length c'] 25 := blkT
      have c0 := k0.cell
      go_wp2_with fail
      refine (HP.out _ (h2.by hb1)).mono ?_
      rintro e w2 ⟨rfl, hb2⟩
      go_wp2
      go_ret
      exact ⟨ret_i64 HR.out, blwT⟩
/- toNetlist and eqNetlist. -/
theorem DvBlk.past {w : World} {g : Nat} {xs : List Dv} (h : DvBlk w g xs) (o : Obj) : DvBlk (w.alloc o) g xs := h.by ((Below.refl _ w).alloc (Nat.le_refl _) o)
theorem DvBlk.off {w : World} {g : Nat} {xs : List Dv} (h : DvBlk w g xs) (b o : Nat) (v : Value) (hb : b < g) : DvBlk (w.setCell ⟨b, o, none⟩ v) g xs := h.apart b o v hb
set_option maxRecDepth 100000 in
set_option maxHeartbeats 2000000 in
theorem toNetlist_any (nets : Int) (s1 s2 : Value) (ds : List Dv) (ps : List Pt) (w : World) (h : DvSl w s1 ds) (h' : PtSl w s2 ps) (hn : ds.length ≤ 1048576) (hpn : ∀ x ∈ ds, x.pins.length ≤ 1048576) (hn' : ps.length ≤ 1048576) :
    Calls Tryz.prog 7 #[.agg #[.int .i64 nets, s1, s2]] w fun e w' => ∃ g f, e = .returned (.agg #[.int .i64 nets, .slice (some ⟨g, 0, none⟩) ds.length ds.length, .slice (some ⟨f, 0, none⟩) ps.length ps.length]) ∧ DvBlk w' g ds ∧ PtBlk w' f ps ∧ w.heap.size ≤ g ∧ g < f ∧ Below w.heap.size w w' := by
  have HD := Lib.hid (fun w h => toDeviceS_any s1 ds w h hn hpn)
  have HP := Lib.hid (fun w h => toPortS_any s2 ps w h hn')
  obtain ⟨a, c, rfl⟩ := h.sized
  obtain ⟨a', c', rfl⟩ := h'.sized
  go_enter Tryz.func7, Tryz.ntmps7
  go_wp2_with fail
  refine (HD.out _ (h.by blwT)).mono ?_
  rintro e w1 ⟨g, rfl, hG, hge, hb1⟩
  have k0 : Blk w1 w.heap.size #[.int .i64 nets, .slice a ds.length c, .slice a' ps.length c'] 25 := blkT
  have k1 : Blk w1 (w.heap.size + 1) #[.int .i64 0, .slice none 0 0, .slice none 0 0] 34 := blkT
  have k2 : Blk w1 (w.heap.size + 1 + 1) #[.int .i64 nets, .slice none 0 0, .slice none 0 0] 34 := blkT
  have l2 := k2.lt
  have c0 := k0.cell
  have c2 := k2.cell
  have f2 := k2.free
  simp at hge
  go_wp2_with fail
  have hbw : Below w.heap.size w (w1.setCell ⟨w.heap.size + 1 + 1, 1, none⟩ (.slice (some ⟨g, 0, none⟩) ds.length ds.length)) := blwT
  refine (HP.out _ (h'.by hbw)).mono ?_
  rintro e w2 ⟨f, rfl, hF, hfe, hb2⟩
  replace k1 : Blk w2 (w.heap.size + 1) #[.int .i64 0, .slice none 0 0, .slice none 0 0] 34 := blkT
  replace k2 : Blk w2 (w.heap.size + 1 + 1) #[.int .i64 nets, .slice (some ⟨g, 0, none⟩) ds.length ds.length, .slice none 0 0] 34 := Blk.by hb2 (k2.set 1 _)
  have hgl := hG.lt
  replace hG := (hG.apart (w.heap.size + 1 + 1) 1 (.slice (some ⟨g, 0, none⟩) ds.length ds.length) (by omega)).by hb2
  replace hbw := below_on hb2 hbw
  have hgf : g < f := by simp at hfe; omega
  clear c0 k0 c2 f2 hb1 hb2
  have c1 := k1.cell
  have f1 := k1.free
  have c2 := k2.cell
  have f2 := k2.free
  have l1 := k1.lt
  have l2 := k2.lt
  go_wp2
  refine bodyPost_ret (v := .agg #[.int .i64 nets, .slice (some ⟨g, 0, none⟩) ds.length ds.length, .slice (some ⟨f, 0, none⟩) ps.length ps.length]) (by simp [results, Tryz.results7, go_sem, *]) rfl ⟨g, f, rfl, ?_, ?_, by omega, hgf, ?_⟩
  · repeat (first | (with_reducible exact hG) | ((with_reducible refine DvBlk.apart ?_ _ _ _ ?_); rotate_left; focus omega))
  · repeat (first | (with_reducible exact hF) | ((with_reducible refine PtBlk.apart ?_ _ _ _ ?_); rotate_left; focus omega))
  · repeat (first | (with_reducible exact hbw) | ((with_reducible refine Below.setCell ?_ ?_ _); rotate_left; focus (simp; try omega)))
/- eqNetlist over two netlists that read alike. -/
structure Nl where
  nets : Int
  ds : List Dv
  ps : List Pt
def NlV (w : World) (v : Value) (x : Nl) : Prop := ∃ s1 s2, v = .agg #[.int .i64 x.nets, s1, s2] ∧ DvSl w s1 x.ds ∧ PtSl w s2 x.ps
theorem NlV.by {w w1 : World} {v : Value} {x : Nl} (hb : Below w.heap.size w w1) (h : NlV w v x) : NlV w1 v x := by
  obtain ⟨s1, s2, h1, h2, h3⟩ := h; exact ⟨s1, s2, h1, h2.by hb, h3.by hb⟩
set_option maxRecDepth 100000 in
set_option maxHeartbeats 2000000 in
theorem eqNetlist_refl (v1 v2 : Value) (x : Nl) (w : World) (h1 : NlV w v1 x) (h2 : NlV w v2 x) :
    Calls Tryz.prog 10 #[v1, v2] w fun e w' => e = .returned (.bool true) ∧ Below w.heap.size w w' := by
  obtain ⟨s1, s2, rfl, hd, hp⟩ := h1
  obtain ⟨t1, t2, rfl, hd', hp'⟩ := h2
  obtain ⟨nets, ds, ps⟩ := x
  dsimp only at hd hp hd' hp' ⊢
  have HD := Lib.hid (fun s1 s2 w h h' => eqDeviceS_refl s1 s2 ds w h h')
  have HP := Lib.hid (fun s1 s2 w h h' => eqPortS_refl s1 s2 ps w h h')
  obtain ⟨a, c, rfl⟩ := hd.sized
  obtain ⟨a', c', rfl⟩ := hp.sized
  obtain ⟨b, d, rfl⟩ := hd'.sized
  obtain ⟨b', d', rfl⟩ := hp'.sized
  go_enter Tryz.func10, Tryz.ntmps10
  go_wp2_with fail
  refine (HD.out _ _ _ (hd.by blwT) (hd'.by blwT)).mono ?_
  rintro e w1 ⟨rfl, hb1⟩
  have k0 : Blk w1 w.heap.size #[.int .i64 nets, .slice a ds.length c, .slice a' ps.length c'] 34 := blkT
  have k1 : Blk w1 (w.heap.size + 1) #[.int .i64 nets, .slice b ds.length d, .slice b' ps.length d'] 34 := blkT
  have hbw : Below w.heap.size w w1 := blwT
  clear hb1
  have c0 := k0.cell
  have c1 := k1.cell
  go_wp2_with fail
  refine (HP.out _ _ _ (hp.by hbw) (hp'.by hbw)).mono ?_
  rintro e w2 ⟨rfl, hb2⟩
  go_wp2
  go_ret
  exact ⟨rfl, below_on hb2 hbw⟩
theorem toNetlist_nl (v : Value) (x : Nl) (w : World) (h : NlV w v x) (hn : x.ds.length ≤ 1048576) (hpn : ∀ d ∈ x.ds, d.pins.length ≤ 1048576) (hn' : x.ps.length ≤ 1048576) :
    Calls Tryz.prog 7 #[v] w fun e w' => ∃ v', e = .returned v' ∧ NlV w' v' x ∧ Below w.heap.size w w' := by
  obtain ⟨s1, s2, rfl, hd, hp⟩ := h
  refine (toNetlist_any x.nets s1 s2 x.ds x.ps w hd hp hn hpn hn').mono ?_
  rintro e w' ⟨g, f, rfl, hG, hF, _, _, hb⟩
  exact ⟨_, rfl, ⟨_, _, rfl, hG.sl (by unfold maxLen; omega) (fun d hd => by have := hpn d hd; omega), hF.sl (by unfold maxLen; omega)⟩, hb⟩
/- The opener of a netlist that came in. -/
theorem pick_list {α : Type} (At : Nat → α → Prop) (ok : α → Prop) (len : Nat) (each : ∀ i, i < len → ∃ x, At i x ∧ ok x) : ∃ xs : List α, xs.length = len ∧ (∀ (i : Nat) x, xs[i]? = some x → At i x) ∧ ∀ r ∈ xs, ok r := by
  induction len with
  | zero => exact ⟨[], rfl, by simp, by simp⟩
  | succ n ih =>
    obtain ⟨xs, h1, h2, h3⟩ := ih (fun i hi => each i (by omega))
    obtain ⟨x, ha, ho⟩ := each n (by omega)
    refine ⟨xs ++ [x], by simp [h1], ?_, ?_⟩
    · intro i y hy
      by_cases hi : i < n
      · rw [List.getElem?_append_left (by omega)] at hy; exact h2 i y hy
      · have : i < (xs ++ [x]).length := (List.getElem?_eq_some_iff.1 hy).1
        simp [h1] at this
        obtain rfl : i = n := by omega
        rw [List.getElem?_append_right (by omega)] at hy
        simp [h1] at hy
        subst hy; exact ha
    · intro r hr
      rcases List.mem_append.1 hr with hr | hr
      · exact h3 r hr
      · simp at hr; subst hr; exact ho
def IsNlV (W : World) (v : Value) (x : Nl) : Prop := NlV W v x ∧ Fits x.nets ∧ (∀ d ∈ x.ds, d.ok) ∧ ∀ p ∈ x.ps, p.ok
theorem cellsNl : Tryz.prog.cellsOf 25 = 3 := by kernel_rfl
theorem cellsPt : Tryz.prog.cellsOf 85 = 2 := by kernel_rfl
theorem cellsIs : Tryz.prog.cellsOf 49 = 1 := by kernel_rfl
theorem cellsI : Tryz.prog.cellsOf 2 = 1 := by kernel_rfl
theorem cellsStr : Tryz.prog.cellsOf 9 = 1 := by kernel_rfl
section
variable {H : Type} {enc : TypeId × Value → H} {W : World} {base : Nat} {spare : Nat → Bool} {held : Bool}
theorem i64_of_cell {fuel : Nat} {c : Value} {y : Option (DataW H × List MemPlace)} (h : DataW.trod enc Tryz.prog W base spare held fuel 2 [c] = y) (hy : y.isSome = true) : ∃ n : Int, c = .int .i64 n ∧ Fits n := by
  obtain ⟨z, rfl⟩ := Option.isSome_iff_exists.1 hy
  obtain ⟨n, e, _, wn⟩ := DataW.trod_int Tryz.underlying2 h
  simp at e
  exact ⟨n, e, wf_i64 wn⟩
theorem str_of_cell {fuel : Nat} {c : Value} {y : Option (DataW H × List MemPlace)} (h : DataW.trod enc Tryz.prog W base spare held fuel 9 [c] = y) (hy : y.isSome = true) : ∃ s : ByteArray, c = .string s ∧ s.size ≤ 9223372036854775807 := by
  obtain ⟨z, rfl⟩ := Option.isSome_iff_exists.1 hy
  obtain ⟨n, e, _, wn⟩ := DataW.trod_string Tryz.underlying9 h
  simp at e
  exact ⟨n, e, by unfold maxLen at wn; omega⟩
theorem isSome_of_len {α : Type} {xs : List α} {n i : Nat} (h : xs.length = n) (hi : i < n) : (xs[i]?).isSome = true := by
  rw [List.getElem?_eq_getElem (by omega)]; rfl
set_option maxRecDepth 100000 in
theorem dev_of_cells {fuel : Nat} {cs : List Value} {x : DataW H × List MemPlace}
    (h : DataW.trod enc Tryz.prog W base spare held fuel 82 cs = some x) : ∃ (d : Dv) (sv : Value), cs = [.int .i64 d.kind, sv, .int .i64 d.wd, .int .i64 d.len] ∧ IntSl W sv d.pins ∧ d.ok := by
  obtain ⟨xs, n, _, hx, hlen, hl, hg⟩ := DataW.trod_struct Tryz.underlying82 h
  rw [cellsDev] at hlen
  match cs, hlen with
  | [c0, c1, c2, c3], _ =>
    have g0 : DataW.trod enc Tryz.prog W base spare held n 2 (([c0, c1, c2, c3].drop 0).take (Tryz.prog.cellsOf 2)) = xs[0]? := hg 0 _ rfl
    have g1 : DataW.trod enc Tryz.prog W base spare held n 49 (([c0, c1, c2, c3].drop 1).take (Tryz.prog.cellsOf 49)) = xs[1]? := hg 1 _ rfl
    have g2 : DataW.trod enc Tryz.prog W base spare held n 2 (([c0, c1, c2, c3].drop 2).take (Tryz.prog.cellsOf 2)) = xs[2]? := hg 2 _ rfl
    have g3 : DataW.trod enc Tryz.prog W base spare held n 2 (([c0, c1, c2, c3].drop 3).take (Tryz.prog.cellsOf 2)) = xs[3]? := hg 3 _ rfl
    rw [cellsI] at g0 g2 g3
    rw [cellsIs] at g1
    obtain ⟨a, rfl, b0⟩ := i64_of_cell g0 (isSome_of_len hl (by decide))
    obtain ⟨b, rfl, b2⟩ := i64_of_cell g2 (isSome_of_len hl (by decide))
    obtain ⟨c, rfl, b3⟩ := i64_of_cell g3 (isSome_of_len hl (by decide))
    obtain ⟨z, hz⟩ := Option.isSome_iff_exists.1 (isSome_of_len hl (i := 1) (by decide))
    rw [hz] at g1
    obtain ⟨zs, h1, h2⟩ := ints_of_cell g1
    exact ⟨⟨a, zs, b, c⟩, c1, rfl, h1, b0, b2, b3, h2⟩
set_option maxRecDepth 100000 in
theorem port_of_cells {fuel : Nat} {cs : List Value} {x : DataW H × List MemPlace}
    (h : DataW.trod enc Tryz.prog W base spare held fuel 85 cs = some x) : ∃ p : Pt, cs = [.string p.name, .int .i64 p.net] ∧ p.ok := by
  obtain ⟨xs, n, _, hx, hlen, hl, hg⟩ := DataW.trod_struct Tryz.underlying85 h
  rw [cellsPt] at hlen
  match cs, hlen with
  | [c0, c1], _ =>
    have g0 : DataW.trod enc Tryz.prog W base spare held n 9 (([c0, c1].drop 0).take (Tryz.prog.cellsOf 9)) = xs[0]? := hg 0 _ rfl
    have g1 : DataW.trod enc Tryz.prog W base spare held n 2 (([c0, c1].drop 1).take (Tryz.prog.cellsOf 2)) = xs[1]? := hg 1 _ rfl
    rw [cellsStr] at g0
    rw [cellsI] at g1
    obtain ⟨s, rfl, b0⟩ := str_of_cell g0 (isSome_of_len hl (by decide))
    obtain ⟨a, rfl, b1⟩ := i64_of_cell g1 (isSome_of_len hl (by decide))
    exact ⟨⟨s, a⟩, rfl, b0, b1⟩
set_option maxRecDepth 100000 in
theorem devs_of_cell {fuel : Nat} {c : Value} {y : DataW H × List MemPlace} (h : DataW.trod enc Tryz.prog W base spare held fuel 22 [c] = some y) : ∃ ds : List Dv, DvSl W c ds ∧ ∀ d ∈ ds, d.ok := by
  rcases open_slice Tryz.underlying22 h with h0 | ⟨a0, len, cap, m', n', D, Pl, hcs, hb, hl, hm, hmm, hx, hi⟩
  · simp at h0
    obtain ⟨rfl, _⟩ := h0
    exact ⟨[], .inl ⟨_, _, rfl, rfl⟩, by simp⟩
  · simp at hcs
    subst hcs
    by_cases h0 : len = 0
    · subst h0
      exact ⟨[], .inl ⟨_, _, rfl, rfl⟩, by simp⟩
    · have hlm : len ≤ m' := by rw [hmm]; split <;> omega
      rw [cellsDev] at hi
      obtain ⟨b, o, spot⟩ := a0
      have hspot : spot = none := by
        obtain ⟨cs', hc, ht⟩ := hi 0 (by omega)
        obtain ⟨x, sv, rfl, _⟩ := dev_of_cells ht
        obtain ⟨_, _, hcell⟩ := World.cells?_some hc
        have e0 := World.cell?_spot (hcell 0 (by omega))
        simpa [Addr.add] using e0
      subst hspot
      have each : ∀ i, i < len → ∃ x : Dv, DvAt W b (o + i * 4) x ∧ x.ok := by
        intro i hil
        obtain ⟨cs', hc, ht⟩ := hi i (by omega)
        obtain ⟨x, sv, rfl, hS, hxok⟩ := dev_of_cells ht
        obtain ⟨_, _, hcell⟩ := World.cells?_some hc
        have e0 := hcell 0 (by omega)
        have e1 := hcell 1 (by omega)
        have e2 := hcell 2 (by omega)
        have e3 := hcell 3 (by omega)
        rw [addr_add, addr_add] at e0 e1 e2 e3
        exact ⟨x, ⟨sv, e0, e1, e2, e3, hS⟩, hxok⟩
      obtain ⟨xs, x1, x2, x3⟩ := pick_list (fun i => DvAt W b (o + i * 4)) Dv.ok len each
      exact ⟨xs, .inr ⟨b, o, cap, by rw [x1], by rw [x1]; exact hl, hm, x2⟩, x3⟩
set_option maxRecDepth 100000 in
theorem ports_of_cell {fuel : Nat} {c : Value} {y : DataW H × List MemPlace} (h : DataW.trod enc Tryz.prog W base spare held fuel 23 [c] = some y) : ∃ ps : List Pt, PtSl W c ps ∧ ∀ d ∈ ps, d.ok := by
  rcases open_slice Tryz.underlying23 h with h0 | ⟨a0, len, cap, m', n', D, Pl, hcs, hb, hl, hm, hmm, hx, hi⟩
  · simp at h0
    obtain ⟨rfl, _⟩ := h0
    exact ⟨[], .inl ⟨_, _, rfl, rfl⟩, by simp⟩
  · simp at hcs
    subst hcs
    by_cases h0 : len = 0
    · subst h0
      exact ⟨[], .inl ⟨_, _, rfl, rfl⟩, by simp⟩
    · have hlm : len ≤ m' := by rw [hmm]; split <;> omega
      rw [cellsPt] at hi
      obtain ⟨b, o, spot⟩ := a0
      have hspot : spot = none := by
        obtain ⟨cs', hc, ht⟩ := hi 0 (by omega)
        obtain ⟨x, rfl, _⟩ := port_of_cells ht
        obtain ⟨_, _, hcell⟩ := World.cells?_some hc
        have e0 := World.cell?_spot (hcell 0 (by omega))
        simpa [Addr.add] using e0
      subst hspot
      have each : ∀ i, i < len → ∃ x : Pt, PtAt W b (o + i * 2) x ∧ x.ok := by
        intro i hil
        obtain ⟨cs', hc, ht⟩ := hi i (by omega)
        obtain ⟨x, rfl, hxok⟩ := port_of_cells ht
        obtain ⟨_, _, hcell⟩ := World.cells?_some hc
        have e0 := hcell 0 (by omega)
        have e1 := hcell 1 (by omega)
        rw [addr_add, addr_add] at e0 e1
        exact ⟨x, ⟨e0, e1⟩, hxok⟩
      obtain ⟨xs, x1, x2, x3⟩ := pick_list (fun i => PtAt W b (o + i * 2)) Pt.ok len each
      exact ⟨xs, .inr ⟨b, o, cap, by rw [x1], by rw [x1]; exact hl, hm, x2⟩, x3⟩
end
set_option maxRecDepth 100000 in
theorem opened_nl {H : Type} {enc : TypeId × Value → H} {W : World} {base b0 : Nat} {r : Reach} {spare : Nat → Bool} {held : Bool} {v : Value} {d : DataW H} {p : List MemPlace}
    (hv : Value.okWide Tryz.prog W r b0 25 v) (h : DataW.Trod enc Tryz.prog W base spare held 25 v d p) : ∃ x, IsNlV W v x := by
  obtain ⟨c0, c1, c2, y0, y1, y2, m, rfl, rfl, rfl, hy0, hy1, hy2⟩ := open_agg3 Tryz.underlying25 (by kernel_rfl) cellsNl hv h
  obtain ⟨a, e0, _, wa⟩ := DataW.trod_int Tryz.underlying2 hy0
  simp at e0
  subst e0
  obtain ⟨ds, h1, h2⟩ := devs_of_cell hy1
  obtain ⟨ps, h3, h4⟩ := ports_of_cell hy2
  exact ⟨⟨a, ds, ps⟩, ⟨_, _, rfl, h1, h3⟩, wf_i64 wa, h2, h4⟩
/- Small laws on netlists for the walks of the statements. -/
theorem mem_pinsAll (xs : List Dv) (d : Dv) (h : d ∈ xs) : (d.pins.length : Int) ≤ pinsAll xs := by
  induction xs with
  | nil => simp at h
  | cons y ys ih =>
    have h0 := pinsAll_nonneg ys
    rcases List.mem_cons.1 h with rfl | h
    · simp only [pinsAll]; omega
    · have := ih h; simp only [pinsAll]; omega
theorem nlSize_bounds {x : Nl} (h : ¬ (1048576 : Int) < nlSize x.ds x.ps) : x.ds.length ≤ 1048576 ∧ (∀ d ∈ x.ds, d.pins.length ≤ 1048576) ∧ x.ps.length ≤ 1048576 := by
  unfold nlSize at h
  have h1 := pinsAll_nonneg x.ds
  have h2 := namesAll_nonneg x.ps
  refine ⟨by omega, fun d hd => ?_, by omega⟩
  have := mem_pinsAll x.ds d hd
  omega
theorem nlSize_nonneg (x : Nl) : 0 ≤ nlSize x.ds x.ps := by
  unfold nlSize
  have h1 := pinsAll_nonneg x.ds
  have h2 := namesAll_nonneg x.ps
  omega
theorem NlV.sized {w : World} {v : Value} {x : Nl} (h : NlV w v x) : ∃ a c a' c', v = .agg #[.int .i64 x.nets, .slice a x.ds.length c, .slice a' x.ps.length c'] := by
  obtain ⟨s1, s2, rfl, hd, hp⟩ := h
  obtain ⟨a, c, rfl⟩ := hd.sized
  obtain ⟨a', c', rfl⟩ := hp.sized
  exact ⟨a, c, a', c', rfl⟩
theorem szNl_any (v : Value) (x : Nl) (l : Int) (w : World) (h : NlV w v x) (hok : ∀ p ∈ x.ps, p.ok) (hl : 0 ≤ l) (hl' : l ≤ 1048576) :
    Calls Tryz.prog 5 #[v, .int .i64 l] w fun e w' => e = .returned (.int .i64 (if l < nlSize x.ds x.ps then -1 else l - nlSize x.ds x.ps)) ∧ Below w.heap.size w w' := by
  obtain ⟨s1, s2, rfl, hd, hp⟩ := h
  exact szNetlist_any x.nets s1 s2 x.ds x.ps l w hd hp hok hl hl'
end Go.Proofs.YtmmohdhkpccjbaaGreat
