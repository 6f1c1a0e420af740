/- Small laws on worlds that the walks of this seat use. -/
import Derived.WalkKit
import Derived.Deep.Draws
import Derived.Lib.Hide
import Derived.Test.YtglddnkpccgchaaDoorRows
import Derived.ProofKit
import Derived.OpenShut
import Derived.Lib.SmallJoins
import Derived.Deep.RegionHeld3
import Derived.Deep.QuietTactic
import Derived.BigQuiet
import Derived.Deep.RegionHeldLaw
import Derived.StillTail
namespace Go.Proofs.YtglddnkpccgchaaDoor
open Go.RowKit

theorem below_drewN {B : Nat} {a w : World} (h : Below B a w) (n : Nat) : Below B a (w.drewN n) := h.trans ⟨rfl, rfl, rfl, Nat.le_refl _, fun _ _ => rfl⟩
/-- A contract's 'Below', met in a later world: what it keeps, in the walk's own form. -/
theorem bcell {W w1 : World} (hb : Below W.heap.size W w1) : (∀ b o, b < W.heap.size → w1.cell? ⟨b, o, none⟩ = W.cell? ⟨b, o, none⟩) ∧ (∀ b o, b < W.heap.size → w1.frozen? ⟨b, o, none⟩ = W.frozen? ⟨b, o, none⟩) :=
  ⟨fun b o h => hb.cell (p := ⟨b, o, none⟩) h, fun b o h => hb.frozen (p := ⟨b, o, none⟩) h⟩
theorem below_of_drewN (w : World) (n : Nat) : Below w.heap.size w (w.drewN n) := below_drewN (Below.refl _ _) n
/-- A call's own result world behind the caller's. -/
theorem below_then {B : Nat} {a w w1 : World} (h : Below B a w) (hB : B ≤ w.heap.size) (hb : Below w.heap.size w w1) : Below B a w1 := h.trans (hb.mono hB)

/-- .. the contract's own end first, so that the walk's closing line finds it by assumption. -/
theorem below_by {B : Nat} {a w w1 : World} (hb : Below w.heap.size w w1) (h : Below B a w) (hB : B ≤ w.heap.size) : Below B a w1 := h.trans (hb.mono hB)

theorem below_on {a W w1 : World} (hb : Below W.heap.size W w1) (h : Below a.heap.size a W) : Below a.heap.size a w1 := h.trans (hb.mono h.size)
theorem below_al {a W : World} (h : Below a.heap.size a W) (o : Obj) : Below a.heap.size a (W.alloc o) := h.alloc h.size o
theorem with_fact {p q : Prop} (hp : p) (k : p → q) : q := k hp
theorem ret_i64 {a b : Int} (h : a = b) : Ending.returned (.int .i64 a) = .returned (.int .i64 b) := by rw [h]
theorem ret_u64 {a b : Int} (h : a = b) : Ending.returned (.int .u64 a) = .returned (.int .u64 b) := by rw [h]
theorem ret_bool {a b : Bool} (h : a = b) : Ending.returned (.bool a) = .returned (.bool b) := by rw [h]
end Go.Proofs.YtglddnkpccgchaaDoor

/- What the arguments' readings give: one opener a shape. -/
namespace Go.Proofs.YtglddnkpccgchaaDoor
open Go.ChangeShapes Go.WideShapes Go.ChangeAt Go.RowKit Go.Joins

/-- An int64 that came in. -/
def IsI64 (v : Value) (x : Int) : Prop := v = .int .i64 x ∧ -9223372036854775808 ≤ x ∧ x ≤ 9223372036854775807
def IsBool (v : Value) (x : Bool) : Prop := v = .bool x

theorem wf_i64 {x : Int} (h : (Lit.int .i64 x).wf = true) : -9223372036854775808 ≤ x ∧ x ≤ 9223372036854775807 := by
  exact bounds_i64 h

theorem opened_int {H : Type} {enc : TypeId × Value → H} {P : Program} {W : World} {base b0 : Nat} {r : Reach} {spare : Nat → Bool} {held : Bool} {t : TypeId} {v : Value} {d : DataW H} {p : List MemPlace} (hu : P.underlying t = some (.int .i64))
    (hv : Value.okWide P W r b0 t v) (h : DataW.Trod enc P W base spare held t v d p) : ∃ x, IsI64 v x := by
  obtain ⟨x, rfl, _, _, wx⟩ := open_int hu hv h
  exact ⟨x, rfl, wf_i64 wx⟩
theorem opened_bool {H : Type} {enc : TypeId × Value → H} {P : Program} {W : World} {base b0 : Nat} {r : Reach} {spare : Nat → Bool} {held : Bool} {t : TypeId} {v : Value} {d : DataW H} {p : List MemPlace} (hu : P.underlying t = some .bool)
    (hv : Value.okWide P W r b0 t v) (h : DataW.Trod enc P W base spare held t v d p) : ∃ x, IsBool v x := by
  obtain ⟨x, rfl, _, _⟩ := open_bool hu hv h
  exact ⟨x, rfl⟩

end Go.Proofs.YtglddnkpccgchaaDoor

/- Blocks of memory that a walk knows whole: carried over a callee's contract without any reckoning of sizes. -/
namespace Go.Proofs.YtglddnkpccgchaaDoor
open Go.RowKit

/-- Block g of world w holds just these cells, and may be written. -/
def Blk (w : World) (g : Nat) (cs : Array Value) (T : TypeId) : Prop := w.heap[g]? = some (.cells cs T (0, 0))

section
variable {w w1 : World} {g : Nat} {cs : Array Value} {T : TypeId}
theorem Blk.cell (h : Blk w g cs T) : ∀ o, w.cell? ⟨g, o, none⟩ = cs[o]? := fun o => by unfold Blk at h; simp [World.cell?, h]
theorem Blk.free (h : Blk w g cs T) : ∀ o, w.frozen? ⟨g, o, none⟩ = false := fun o => by unfold Blk at h; simp [World.frozen?, h]
theorem Blk.both (h : Blk w g cs T) : Blk w g cs T ∧ ∀ o, w.cell? ⟨g, o, none⟩ = cs[o]? := ⟨h, h.cell⟩
theorem Blk.lt (h : Blk w g cs T) : g < w.heap.size := by
  unfold Blk at h
  rcases Nat.lt_or_ge g w.heap.size with h' | h'
  · exact h'
  · rw [Array.getElem?_eq_none h'] at h; cases h
theorem Blk.by (hb : Below w.heap.size w w1) (h : Blk w g cs T) : Blk w1 g cs T := (hb.block g h.lt).trans h
theorem Blk.new (n : Nat) (hn : n = w.heap.size) : Blk (w.alloc (.cells cs T)) n cs T := by subst hn; unfold Blk World.alloc; simp
theorem Blk.past (h : Blk w g cs T) (o : Obj) : Blk (w.alloc o) g cs T := (Below.heap_alloc w o g h.lt).trans h
theorem Blk.drew (h : Blk w g cs T) : Blk w.drew g cs T := h
theorem Blk.drewN (h : Blk w g cs T) (n : Nat) : Blk (w.drewN n) g cs T := h
theorem Blk.set (h : Blk w g cs T) (o : Nat) (v : Value) : Blk (w.setCell ⟨g, o, none⟩ v) g (cs.setIfInBounds o v) T := by
  unfold Blk at *
  simp [World.setCell, Array.getElem?_modify, h]
theorem Blk.apart (h : Blk w g cs T) (b o : Nat) (v : Value) (hne : g ≠ b) : Blk (w.setCell ⟨b, o, none⟩ v) g cs T := by
  exact (Below.heap_setCell w ⟨b, o, none⟩ v g hne).trans h
/-- Two stores into a block of two cells. -/
theorem Blk.set2 {a b x y : Value} (h : Blk w g #[a, b] T) : Blk ((w.setCell ⟨g, 0, none⟩ x).setCell ⟨g, 1, none⟩ y) g #[x, y] T := (h.set 0 x).set 1 y
theorem Blk.set1 {a x : Value} (h : Blk w g #[a] T) : Blk (w.setCell ⟨g, 0, none⟩ x) g #[x] T := h.set 0 x
end
end Go.Proofs.YtglddnkpccgchaaDoor

/- Worlds in which one block alone has turned. -/
namespace Go.Proofs.YtglddnkpccgchaaDoor
open Go.RowKit

/-- Nothing but block g has turned. -/
structure Only (g : Nat) (w w' : World) : Prop where
  os : w'.os = w.os
  tape : w'.tape = w.tape
  output : w'.output = w.output
  size : w'.heap.size = w.heap.size
  block : ∀ k, k ≠ g → w'.heap[k]? = w.heap[k]?
theorem Only.refl (g : Nat) (w : World) : Only g w w := ⟨rfl, rfl, rfl, rfl, fun _ _ => rfl⟩
theorem Only.set {g : Nat} {a w : World} (h : Only g a w) (o : Nat) (v : Value) : Only g a (w.setCell ⟨g, o, none⟩ v) :=
  ⟨h.os, h.tape, h.output, by simp [World.setCell, h.size], fun k hk => (Below.heap_setCell w ⟨g, o, none⟩ v k hk).trans (h.block k hk)⟩
theorem Only.drewN {g : Nat} {a w : World} (h : Only g a w) (n : Nat) : Only g a (w.drewN n) := ⟨h.os, h.tape, h.output, h.size, h.block⟩
theorem Only.below {g B : Nat} {a w w' : World} (h : Only g w w') (hb : Below B a w) (hg : B ≤ g) : Below B a w' :=
  hb.trans ⟨h.os, h.tape, h.output, Nat.le_of_eq h.size.symm, fun k hk => h.block k (by omega)⟩
theorem Only.blk {g f : Nat} {w w' : World} {cs : Array Value} {T : TypeId} (h : Only g w w') (hf : Blk w f cs T) (hne : f ≠ g) : Blk w' f cs T := (h.block f hne).trans hf

end Go.Proofs.YtglddnkpccgchaaDoor

/- Slices of int64: what a walk knows of one, and the contracts of the functions of package laws over them. -/
namespace Go.Proofs.YtglddnkpccgchaaDoor
open Go.RowKit
set_option linter.unusedVariables false
set_option linter.unusedSimpArgs false

/-- A slice that reads as these numbers. -/
def IntSl (w : World) (sv : Value) (zs : List Int) : Prop :=
  (∃ a c, sv = .slice a 0 c ∧ zs = []) ∨ ∃ b off cap, sv = .slice (some ⟨b, off, none⟩) zs.length cap ∧ zs.length ≤ cap ∧ cap ≤ maxLen ∧ ∀ (i : Nat) (x : Int), zs[i]? = some x → w.cell? ⟨b, off + i, none⟩ = some (.int .i64 x)
/-- A block of the call's own that holds these numbers, and no more. -/
def IBlk (w : World) (g : Nat) (zs : List Int) : Prop := ∃ cs : Array Value, Blk w g cs 2 ∧ cs.size = zs.length ∧ ∀ (i : Nat) (x : Int), zs[i]? = some x → cs[i]? = some (Value.int .i64 x)
def Fits (x : Int) : Prop := -9223372036854775808 ≤ x ∧ x ≤ 9223372036854775807

theorem cell_by' {w w1 : World} {p : Addr} {v : Value} (hb : Below w.heap.size w w1) (h : w.cell? p = some v) : w1.cell? p = some v := by
  have hlt : p.block < w.heap.size := by
    rcases Nat.lt_or_ge p.block w.heap.size with h' | h'
    · exact h'
    · simp [World.cell?, Array.getElem?_eq_none h'] at h
  rw [hb.cell hlt]; exact h
theorem IntSl.by {w w1 : World} {sv : Value} {zs : List Int} (hb : Below w.heap.size w w1) (h : IntSl w sv zs) : IntSl w1 sv zs := by
  rcases h with h | ⟨b, off, cap, h1, h2, h3, h4⟩
  · exact .inl h
  · exact .inr ⟨b, off, cap, h1, h2, h3, fun i x hx => cell_by' hb (h4 i x hx)⟩
theorem IntSl.len {w : World} {sv : Value} {zs : List Int} (h : IntSl w sv zs) : ∃ a c, sv = .slice a zs.length c := by
  rcases h with ⟨a, c, h1, h2⟩ | ⟨b, off, cap, h1, _⟩
  · subst h2; exact ⟨a, c, h1⟩
  · exact ⟨_, _, h1⟩
theorem IntSl.le {w : World} {sv : Value} {zs : List Int} (h : IntSl w sv zs) : zs.length ≤ 9223372036854775807 := by
  rcases h with ⟨a, c, h1, h2⟩ | ⟨b, off, cap, h1, h2, h3, _⟩
  · subst h2; simp
  · unfold maxLen at h3; omega
theorem IBlk.by {w w1 : World} {g : Nat} {zs : List Int} (hb : Below w.heap.size w w1) (h : IBlk w g zs) : IBlk w1 g zs := by
  obtain ⟨cs, h1, h2⟩ := h; exact ⟨cs, Blk.by hb h1, h2⟩
theorem IBlk.sl {w : World} {g : Nat} {zs : List Int} (h : IBlk w g zs) (hm : zs.length ≤ 9223372036854775807) : IntSl w (.slice (some ⟨g, 0, none⟩) zs.length zs.length) zs := by
  obtain ⟨cs, h1, h2, h3⟩ := h
  refine .inr ⟨g, 0, zs.length, rfl, Nat.le_refl _, by unfold maxLen; omega, fun i x hx => ?_⟩
  rw [Nat.zero_add, h1.cell]; exact h3 i x hx
theorem IBlk.alloc {w : World} {g : Nat} {zs : List Int} (h : IBlk w g zs) (o : Obj) : IBlk (w.alloc o) g zs := by
  obtain ⟨cs, h1, h2⟩ := h; exact ⟨cs, h1.past o, h2⟩
theorem IBlk.apart {w : World} {g : Nat} {zs : List Int} (h : IBlk w g zs) (b o : Nat) (v : Value) (hne : g ≠ b) : IBlk (w.setCell ⟨b, o, none⟩ v) g zs := by
  obtain ⟨cs, h1, h2⟩ := h; exact ⟨cs, h1.apart b o v hne, h2⟩
theorem IBlk.drewN {w : World} {g : Nat} {zs : List Int} (h : IBlk w g zs) (n : Nat) : IBlk (w.drewN n) g zs := by
  obtain ⟨cs, h1, h2⟩ := h; exact ⟨cs, h1.drewN n, h2⟩
theorem IBlk.lt {w : World} {g : Nat} {zs : List Int} (h : IBlk w g zs) : g < w.heap.size := by
  obtain ⟨cs, h1, h2⟩ := h; exact h1.lt

theorem infoI : (Tryd.prog.info? 2).map (fun i => (i.zero, i.size, i.bytes)) = some (some (.int .i64 0), 1, 8) := by kernel_rfl
/-- make([]int64, n): a new block of n noughts. -/
theorem make_ints (n : Nat) (hn : n ≤ 1048576) (w : World) : ∃ cs : Array Value, cs.size = n ∧ (∀ i, i < n → cs[i]? = some (Value.int .i64 0)) ∧ (Instr.makeSlice 50 (.int .i64 n) (.int .i64 n)).run Tryd.prog w = .ok (.slice (some ⟨w.heap.size, 0, none⟩) n n) (w.alloc (.cells cs 2)) := by
  obtain ⟨i0, hi, hz0, hz1, hz2⟩ := info_parts infoI
  have h := run_make (P := Tryd.prog) w 50 2 i0 _ Tryd.underlying50 hi hz0 .i64 .i64 (n : Int) (n : Int) (by omega) (by omega) (by rw [hz2]; omega) (by omega)
  simp only [Int.toNat_natCast, hz1, Nat.mul_one] at h
  refine ⟨_, size_madeCells _ _, fun i hi => ?_, h⟩
  simp [madeCells, hi, Value.cells, Nat.mod_one]

theorem szInt64S_any (sv : Value) (zs : List Int) (l : Int) (w : World) (h : IntSl w sv zs) (hl : 0 ≤ l) (hl' : l ≤ 1048576) :
    Calls Tryd.prog 81 #[sv, .int .i64 l] w fun e w' => e = .returned (.int .i64 (if l < zs.length then -1 else l - zs.length)) ∧ w = w' := by
  obtain ⟨r, hr⟩ : ∃ r : Int, (if l < zs.length then (-1 : Int) else l - zs.length) = r := ⟨_, rfl⟩
  rw [hr]
  have HR := Lib.hid hr
  have hlen := h.le
  obtain ⟨a, c, rfl⟩ := h.len
  clear hr
  generalize zs.length = n at *
  clear h
  by_cases hlt : l < n
  · go_enter Tryd.func81, Tryd.ntmps81
    go_wp2
    go_ret
    exact ⟨ret_i64 (by rw [← HR.out, if_pos hlt]), rfl⟩
  · go_enter Tryd.func81, Tryd.ntmps81
    go_wp2
    go_ret
    exact ⟨ret_i64 (by rw [← HR.out, if_neg (by omega)]), rfl⟩

set_option maxRecDepth 100000 in
set_option maxHeartbeats 1000000 in
theorem toInt64S_any (sv : Value) (zs : List Int) (w : World) (h : IntSl w sv zs) (hn : zs.length ≤ 1048576) :
    Calls Tryd.prog 82 #[sv] w fun e w' => ∃ g, e = .returned (.slice (some ⟨g, 0, none⟩) zs.length zs.length) ∧ IBlk w' g zs ∧ w.heap.size ≤ g ∧ Below w.heap.size w w' := by
  rcases h with ⟨a, c, rfl, rfl⟩ | ⟨b, off, cap, rfl, h2, h3, h4⟩
  · obtain ⟨cs, hcs, _, hmk⟩ := make_ints 0 (by omega) w
    simp only [Int.natCast_zero] at hmk
    go_enter Tryd.func82, Tryd.ntmps82
    go_wp2
    go_loopw [4] (fun i wr => i = .int .i64 0 ∧ Blk wr w.heap.size cs 2 ∧ Below w.heap.size w wr) (fun _ _ => 0)
    case atStart => exact ⟨rfl, (by ((repeat (first | (with_reducible assumption) | (with_reducible refine Blk.drewN ?_ _) | (with_reducible refine Blk.drew ?_) | ((with_reducible refine Blk.new _ ?_); focus (first | omega | (simp; done) | (simp; omega))) | (with_reducible refine Blk.past ?_ _) | ((with_reducible refine Blk.apart ?_ _ _ _ ?_); rotate_left; focus (first | omega | (simp; done) | (simp; omega))) | (with_reducible refine Blk.by (by assumption) ?_))); done)), (by ((repeat (first | (with_reducible exact Below.refl _ _) | (with_reducible refine below_drewN ?_ _) | (with_reducible refine Below.drew ?_) | (with_reducible refine below_al ?_ _) | (with_reducible refine below_on (by assumption) ?_) | ((with_reducible refine Below.setCell ?_ ?_ _); rotate_left; focus (first | omega | (simp; done) | (simp; omega))) | (with_reducible assumption))); done))⟩
    case round =>
      obtain ⟨rfl, hx, hb⟩ := hrel
      go_wp2
      go_ret
      exact ⟨w.heap.size, rfl, ⟨cs, hx, hcs, by simp⟩, Nat.le_refl _, hb⟩
  · obtain ⟨cs0, hcs0, _, hmk⟩ := make_ints zs.length hn w
    unfold maxLen at h3
    go_enter Tryd.func82, Tryd.ntmps82
    go_wp2
    clear hmk
    go_loopw [4] (fun i wr => ∃ k : Nat, k ≤ zs.length ∧ i = .int .i64 k ∧ (∃ cs : Array Value, Blk wr w.heap.size cs 2 ∧ cs.size = zs.length ∧ ∀ (j : Nat) (y : Int), j < k → zs[j]? = some y → cs[j]? = some (Value.int .i64 y)) ∧ Below w.heap.size w wr) (fun i _ => zs.length - (intOf i).toNat)
    case atStart => exact ⟨0, Nat.zero_le _, rfl, ⟨cs0, (by ((repeat (first | (with_reducible assumption) | (with_reducible refine Blk.drewN ?_ _) | (with_reducible refine Blk.drew ?_) | ((with_reducible refine Blk.new _ ?_); focus (first | omega | (simp; done) | (simp; omega))) | (with_reducible refine Blk.past ?_ _) | ((with_reducible refine Blk.apart ?_ _ _ _ ?_); rotate_left; focus (first | omega | (simp; done) | (simp; omega))) | (with_reducible refine Blk.by (by assumption) ?_))); done)), hcs0, by intro j y hj; omega⟩, (by ((repeat (first | (with_reducible exact Below.refl _ _) | (with_reducible refine below_drewN ?_ _) | (with_reducible refine Below.drew ?_) | (with_reducible refine below_al ?_ _) | (with_reducible refine below_on (by assumption) ?_) | ((with_reducible refine Below.setCell ?_ ?_ _); rotate_left; focus (first | omega | (simp; done) | (simp; omega))) | (with_reducible assumption))); done))⟩
    case round =>
      obtain ⟨k, hk, rfl, ⟨cs, hB, hsz, hold⟩, hb⟩ := hrel
      by_cases hlt : k < zs.length
      · obtain ⟨x, hx⟩ : ∃ x, zs[k]? = some x := ⟨zs[k], List.getElem?_eq_getElem hlt⟩
        have c1 := cell_by' hb (h4 k x hx)
        have HS := Lib.hid hsz
        have HO := Lib.hid hold
        have HX := Lib.hid hx
        have hin : k < cs.size := by omega
        obtain ⟨u0_, d0⟩ : ∃ u, cs[k]? = some u := ⟨_, Array.getElem?_eq_getElem hin⟩
        clear hsz hold hx h4 hcs0
        have hBc := hB.cell
        have hBf := hB.free
        have i1 : (0 : Int) ≤ (k : Int) := by omega
        have i2 : (k : Int) < (zs.length : Int) := by omega
        go_wp2
        refine ⟨⟨k + 1, by omega, by go_num, ⟨cs.setIfInBounds k (.int .i64 x), hB.set _ _, by simp [HS.out], ?_⟩, (by ((repeat (first | (with_reducible exact Below.refl _ _) | (with_reducible refine below_drewN ?_ _) | (with_reducible refine Below.drew ?_) | (with_reducible refine below_al ?_ _) | (with_reducible refine below_on (by assumption) ?_) | ((with_reducible refine Below.setCell ?_ ?_ _); rotate_left; focus (first | omega | (simp; done) | (simp; omega))) | (with_reducible assumption))); done))⟩, by simp [intOf]; omega⟩
        intro j y hj hy
        rw [Array.getElem?_setIfInBounds]
        by_cases hjk : k = j
        · subst hjk
          obtain rfl : y = x := Option.some.inj (hy.symm.trans HX.out)
          rw [if_pos rfl, if_pos hin]
        · rw [if_neg hjk]; exact HO.out j y (by omega) hy
      · go_wp2
        go_ret
        refine ⟨w.heap.size, rfl, ⟨cs, hB, hsz, fun i x hx => hold i x ?_ hx⟩, Nat.le_refl _, hb⟩
        have := (List.getElem?_eq_some_iff.1 hx).1
        omega

set_option maxRecDepth 100000 in
set_option maxHeartbeats 1000000 in
theorem eqInt64S_refl (s1 s2 : Value) (zs : List Int) (w : World) (h : IntSl w s1 zs) (h' : IntSl w s2 zs) :
    Calls Tryd.prog 86 #[s1, s2] w fun e w' => e = .returned (.bool true) ∧ ∃ n, w' = w.drewN n := by
  have hlen := h.le
  by_cases h0 : zs = []
  · subst h0
    obtain ⟨a, c, rfl⟩ := h.len
    obtain ⟨a', c', rfl⟩ := h'.len
    go_enter Tryd.func86, Tryd.ntmps86
    go_wp2
    go_loopw [5] (fun i wr => i = .int .i64 0 ∧ wr = w) (fun _ _ => 0)
    case atStart => exact ⟨rfl, rfl⟩
    case round =>
      obtain ⟨rfl, rfl⟩ := hrel
      go_wp2
      go_ret
      exact ⟨rfl, 0, rfl⟩
  · rcases h with ⟨_, _, _, h2⟩ | ⟨b, off, cap, rfl, h2, h3, h4⟩
    · exact absurd h2 h0
    rcases h' with ⟨_, _, _, h2'⟩ | ⟨b', off', cap', rfl, h2', h3', h4'⟩
    · exact absurd h2' h0
    clear h0
    unfold maxLen at h3 h3'
    go_enter Tryd.func86, Tryd.ntmps86
    go_wp2
    go_loopw [5] (fun i wr => ∃ k n : Nat, k ≤ zs.length ∧ i = .int .i64 k ∧ wr = w.drewN n) (fun i _ => zs.length - (intOf i).toNat)
    case atStart => exact ⟨0, 0, Nat.zero_le _, rfl, rfl⟩
    case round =>
      obtain ⟨k, n, hk, rfl, rfl⟩ := hrel
      by_cases hlt : k < zs.length
      · obtain ⟨x, hx⟩ : ∃ x, zs[k]? = some x := ⟨zs[k], List.getElem?_eq_getElem hlt⟩
        have c1 := h4 k x hx
        have c2 := h4' k x hx
        clear h4 h4' hx
        have i1 : (0 : Int) ≤ (k : Int) := by omega
        have i2 : (k : Int) < (zs.length : Int) := by omega
        go_wp2
        go_quiet (fail)
        go_wp2
        exact ⟨⟨k + 1, _, by omega, by go_num, rfl⟩, by simp [intOf]; omega⟩
      · go_wp2
        go_ret
        exact ⟨rfl, n, rfl⟩

/-- n numbers from k on. -/
def marks (k : Int) (n : Nat) : List Int := (List.range n).map fun (i : Nat) => k + (i : Int)
theorem length_marks (k : Int) (n : Nat) : (marks k n).length = n := by simp [marks]
theorem marks_get (k : Int) (n i : Nat) (h : i < n) : (marks k n)[i]? = some (k + i) := by simp [marks, h]

set_option maxRecDepth 100000 in
set_option maxHeartbeats 1000000 in
theorem markInt64S_any (g : Nat) (zs : List Int) (k0 : Int) (w : World) (h : IBlk w g zs) (hn : zs.length ≤ 1048576) (hk : 0 ≤ k0) (hk' : k0 ≤ 1000000000000) :
    Calls Tryd.prog 72 #[.slice (some ⟨g, 0, none⟩) zs.length zs.length, .int .i64 k0] w fun e w' => e = .returned (.int .i64 (k0 + zs.length)) ∧ IBlk w' g (marks k0 zs.length) ∧ Only g w w' := by
  obtain ⟨cs0, h1, h2, h3⟩ := h
  go_enter Tryd.func72, Tryd.ntmps72
  go_wp2
  go_loopw [1, 5] (fun v i wr => ∃ k : Nat, k ≤ zs.length ∧ i = .int .i64 k ∧ v = .int .i64 (k0 + k) ∧ (∃ cs : Array Value, Blk wr g cs 2 ∧ cs.size = zs.length ∧ ∀ j, j < k → cs[j]? = some (Value.int .i64 (k0 + j))) ∧ Only g w wr) (fun _ i _ => zs.length - (intOf i).toNat)
  case atStart => exact ⟨0, Nat.zero_le _, rfl, by simp, ⟨cs0, h1, h2, by intro j hj; omega⟩, Only.refl _ _⟩
  case round =>
    obtain ⟨k, hkl, rfl, rfl, ⟨cs, hB, hsz, hold⟩, ho⟩ := hrel
    by_cases hlt : k < zs.length
    · have HS := Lib.hid hsz
      have HO := Lib.hid hold
      have hin : k < cs.size := by omega
      obtain ⟨u0_, d0⟩ : ∃ u, cs[k]? = some u := ⟨_, Array.getElem?_eq_getElem hin⟩
      clear hsz hold h2 h3
      have hBc := hB.cell
      have hBf := hB.free
      go_wp2
      refine ⟨⟨k + 1, by omega, by go_num, by congr 1; omega, ⟨cs.setIfInBounds k (.int .i64 (k0 + k)), hB.set _ _, by simp [HS.out], ?_⟩, ho.set _ _⟩, by simp [intOf]; omega⟩
      intro j hj
      rw [Array.getElem?_setIfInBounds]
      by_cases hjk : k = j
      · subst hjk
        rw [if_pos rfl, if_pos hin]
      · rw [if_neg hjk]; exact HO.out j (by omega)
    · obtain rfl : k = zs.length := by omega
      go_wp2
      go_ret
      refine ⟨rfl, ⟨cs, hB, by rw [hsz, length_marks], fun i x hx => ?_⟩, ho⟩
      have hi : i < zs.length := by have := (List.getElem?_eq_some_iff.1 hx).1; rwa [length_marks] at this
      rw [marks_get k0 _ i hi] at hx
      cases hx
      exact hold i hi

set_option maxRecDepth 100000 in
set_option maxHeartbeats 1000000 in
theorem heldInt64S_any (sv : Value) (n : Nat) (k0 : Int) (w : World) (h : IntSl w sv (marks k0 n)) (hn : n ≤ 1048576) (hk : 0 ≤ k0) (hk' : k0 ≤ 1000000000000) :
    Calls Tryd.prog 74 #[sv, .int .i64 k0] w fun e w' => e = .returned (.int .i64 (k0 + n)) ∧ ∃ m, w' = w.drewN m := by
  have hlm := length_marks k0 n
  obtain ⟨a, c, rfl⟩ := h.len
  rw [hlm]
  have hcell : ∀ i, i < n → ∃ b off, a = some ⟨b, off, none⟩ ∧ w.cell? ⟨b, off + i, none⟩ = some (.int .i64 (k0 + i)) := by
    intro i hi
    rcases h with ⟨_, _, e, h2⟩ | ⟨b, off, cap, e, h2, h3, h4⟩
    · rw [h2] at hlm; simp at hlm; omega
    · simp at e
      exact ⟨b, off, e.1, h4 i _ (marks_get k0 n i hi)⟩
  clear h hlm
  have HC := Lib.hid hcell
  clear hcell
  go_enter Tryd.func74, Tryd.ntmps74
  go_wp2
  go_loopw [1, 5] (fun v i wr => ∃ k m : Nat, k ≤ n ∧ i = .int .i64 k ∧ v = .int .i64 (k0 + k) ∧ wr = w.drewN m) (fun _ i _ => n - (intOf i).toNat)
  case atStart => exact ⟨0, 0, Nat.zero_le _, rfl, by simp, rfl⟩
  case round =>
    obtain ⟨k, m, hkl, rfl, rfl, rfl⟩ := hrel
    by_cases hlt : k < n
    · obtain ⟨b, off, rfl, c1⟩ := HC.out k hlt
      go_wp2
      exact ⟨⟨k + 1, m, by omega, by go_num, by congr 1; omega, rfl⟩, by simp [intOf]; omega⟩
    · obtain rfl : k = n := by omega
      go_wp2
      go_ret
      exact ⟨rfl, m, rfl⟩
end Go.Proofs.YtglddnkpccgchaaDoor

/- The first place at which a predicate holds: plain. -/
namespace Go.Proofs.YtglddnkpccgchaaDoor

def fidx {α : Type} (p : α → Bool) (xs : List α) : Int := match xs.findIdx? p with | some k => (k : Int) | none => -1
section
variable {α : Type} {p : α → Bool} {xs : List α}
theorem fidx_hit {k : Nat} {x : α} (hk : xs[k]? = some x) (hp : p x = true) (hb : ∀ j y, j < k → xs[j]? = some y → p y = false) : fidx p xs = k := by
  have : xs.findIdx? p = some k := by
    rw [List.findIdx?_eq_some_iff_getElem]
    obtain ⟨h, e⟩ := List.getElem?_eq_some_iff.1 hk
    refine ⟨h, by rw [e]; exact hp, fun j hj => ?_⟩
    have := hb j xs[j] hj (List.getElem?_eq_getElem (by omega))
    simp [this]
  simp [fidx, this]
theorem fidx_miss (hb : ∀ (j : Nat) y, xs[j]? = some y → p y = false) : fidx p xs = -1 := by
  have : xs.findIdx? p = none := by
    rw [List.findIdx?_eq_none_iff]
    intro x hx
    obtain ⟨j, hj, e⟩ := List.mem_iff_getElem.1 hx
    have := hb j x (by rw [List.getElem?_eq_getElem hj, e])
    simp [this]
  simp [fidx, this]
theorem fidx_any : decide (0 ≤ fidx p xs) = xs.any p := by
  unfold fidx
  cases h : xs.findIdx? p with
  | none =>
    rw [List.findIdx?_eq_none_iff] at h
    have : xs.any p = false := by rw [List.any_eq_false]; intro x hx; simp [h x hx]
    simp [this]
  | some k =>
    rw [List.findIdx?_eq_some_iff_getElem] at h
    obtain ⟨h, e, _⟩ := h
    have : xs.any p = true := by rw [List.any_eq_true]; exact ⟨_, List.getElem_mem h, e⟩
    simp [this]
theorem fidx_lt : fidx p xs < xs.length ∧ -1 ≤ fidx p xs := by
  unfold fidx
  cases h : xs.findIdx? p with
  | none => simp; omega
  | some k =>
    rw [List.findIdx?_eq_some_iff_getElem] at h
    obtain ⟨h, e, _⟩ := h
    simp; omega
end
end Go.Proofs.YtglddnkpccgchaaDoor

/- Regions that draw their order and whose last operation stores into what they read: what must hold of the world need not hold behind that last operation. -/
namespace Go.Proofs.YtglddnkpccgchaaDoor
open Go.RowKit
set_option linter.unusedVariables false
set_option linter.unusedSimpArgs false
section
variable {P : Program} {ops : Array Oper} {Q : Exit → Act → World → Prop} {md : Region.Mode} {S : World → Prop} {l : Nat}

/-- Whatever order is picked, and S holds behind every operation but number l. -/
def wpAnyE (P : Program) (md : Region.Mode) (ops : Array Oper) (Q : Exit → Act → World → Prop) (S : World → Prop) (l : Nat) : Nat → Array Bool → Act → World → Prop
  | 0, listed, a, w => Region.ready md ops listed = [] ∧ Q .normal a w
  | fuel + 1, listed, a, w =>
    (Region.ready md ops listed = [] → Q .normal a w) ∧
    ∀ i ∈ Region.ready md ops listed, wpOp P ops Q i (fun a' w' => (i ≠ l → S w') ∧ wpAnyE P md ops Q S l fuel (listed.setIfInBounds i true) a' w') a w

theorem wpAny_of_E : ∀ (fuel : Nat) (listed : Array Bool) (a : Act) (w : World), wpAnyE P md ops Q S l fuel listed a w → wpAny P md ops Q fuel listed a w
  | 0, _, _, _, h => h
  | fuel + 1, _, _, _, h => ⟨h.1, fun i hi => wpOp_mono (fun a' w' h' => wpAny_of_E fuel _ a' w' h'.2) (h.2 i hi)⟩

theorem wpAnyE_first {i : Nat} {oi : Oper} {v : Value} (hi : ops[i]? = some oi) (hsel : ∀ (j : Nat) (o : Oper) cs b, ops[j]? = some o → o.op ≠ .select cs b)
    (hQ : ∀ c a w, Q (.panic c) (a.put oi.dst v) w → Q (.panic c) a w) (hs : Region.sinkB md ops l = true) (hc : Region.chainB md ops l = true) (hn : l < ops.size) (hil : i < l) :
    ∀ (fuel : Nat) (listed : Array Bool) (a : Act) (w : World), HeadInv md ops l listed →
      (∀ j oj, ops[j]? = some oj → j ≠ i → listed.getD j true = false → (∀ e ∈ oj.after, Region.binds md e = true → e.on ≠ i) → oi.apart ops oj = true) →
      i ∈ Region.ready md ops listed → YieldsIf P ops S oi v a → S w →
      wpAnyE P md ops Q S l fuel (listed.setIfInBounds i true) (a.put oi.dst v) w → wpAnyE P md ops Q S l (fuel + 1) listed a w := by
  intro fuel
  induction fuel with
  | zero =>
    intro listed a w inv _ hr hy hS H
    refine ⟨fun h => (by rw [h] at hr; cases hr), fun j hj => ?_⟩
    by_cases hji : j = i
    · subst hji; exact hy.wpOp hi hS ⟨fun _ => hS, H⟩
    · have := ready_mono hj hji
      rw [H.1] at this
      cases this
  | succ fuel ih =>
    intro listed a w inv hfree hr hy hS H
    have hun := (mem_ready.1 hr).1
    refine ⟨fun h => (by rw [h] at hr; cases hr), fun j hj => ?_⟩
    have hjl : j < l := by
      rcases Nat.lt_or_ge j l with h | h
      · exact h
      · exact absurd hj (tail_waits hs hc hn inv _ i rfl hil hun j h)
    by_cases hji : j = i
    · subst hji; exact hy.wpOp hi hS ⟨fun _ => hS, H⟩
    · have h1 := H.2 j (ready_mono hj hji)
      obtain ⟨hjun, oj, hoj, hall⟩ := mem_ready.1 hj
      have hnot : ∀ e ∈ oj.after, Region.binds md e = true → e.on ≠ i := fun e he hb heq => by
        have h1 := hall e he hb
        rw [heq, getD_both hun] at h1
        cases h1
      have h2 := wpOp_putIf hoj (hfree j oj hoj hji hjun hnot) (fun cs b => hsel i oi cs b hi) (fun cs b => hsel j oj cs b hoj) hQ hy h1
      have hfree' : ∀ k ok, ops[k]? = some ok → k ≠ i → (listed.setIfInBounds j true).getD k true = false →
          (∀ e ∈ ok.after, Region.binds md e = true → e.on ≠ i) → oi.apart ops ok = true := fun k ok hk hki hun hno => by
        refine hfree k ok hk hki ?_ hno
        by_cases hjk : j = k
        · subst hjk; exact hjun
        · rw [getD_set_ne true hjk] at hun; exact hun
      refine wpOp_mono (fun a' w' h3 => ⟨h3.2.1, ih (listed.setIfInBounds j true) a' w' (inv.set hj hjl) hfree' (ready_mono hr (Ne.symm hji)) h3.1 (h3.2.1 (by omega)) ?_⟩) h2
      rw [Array.setIfInBounds_comm _ _ hji]
      exact h3.2.2

/-- What has come up is closed, and nothing from l on has come up: as a Bool. -/
def headB (md : Region.Mode) (ops : Array Oper) (l : Nat) (listed : Array Bool) : Bool :=
  decide (listed.size = ops.size) && ((List.range ops.size).all fun j => !listed.getD j false || ((ops[j]?).map (·.after.all fun e => !Region.binds md e || listed.getD e.on false)).getD true) && ((List.range ops.size).all fun t => decide (t < l) || !listed.getD t true)
theorem headB_inv {listed : Array Bool} (h : headB md ops l listed = true) : HeadInv md ops l listed := by
  simp only [headB, Bool.and_eq_true, decide_eq_true_eq, List.all_eq_true, List.mem_range, Bool.or_eq_true, Bool.not_eq_true'] at h
  obtain ⟨⟨h1, h2⟩, h3⟩ := h
  refine ⟨h1, fun j oj hj hl e he hb => ?_, fun t ht ht' => ?_⟩
  · have hlt : j < ops.size := (Array.getElem?_eq_some_iff.1 hj).1
    rcases h2 j hlt with h | h
    · rw [hl] at h; cases h
    · rw [hj] at h
      simp only [Option.map_some, Option.getD_some, Array.all_eq_true_iff_forall_mem, Bool.or_eq_true, Bool.not_eq_true'] at h
      rcases h e he with h | h
      · rw [hb] at h; cases h
      · exact h
  · rcases h3 t ht' with h | h
    · omega
    · exact h

theorem wpAnyE_take {i : Nat} {oi : Oper} {v : Value} {fuel : Nat} {listed : Array Bool} {a : Act} {w : World} (hi : ops[i]? = some oi)
    (hk : (Region.noSelect ops && Region.free md ops listed i && (Region.ready md ops listed).contains i && headB md ops l listed && Region.sinkB md ops l && Region.chainB md ops l && decide (l < ops.size) && decide (i < l)) = true)
    (hQ : ∀ c a w, Q (.panic c) (a.put oi.dst v) w → Q (.panic c) a w) (hy : YieldsIf P ops S oi v a) (hS : S w)
    (h : wpAnyE P md ops Q S l fuel (listed.setIfInBounds i true) (a.put oi.dst v) w) : wpAnyE P md ops Q S l (fuel + 1) listed a w := by
  simp only [Bool.and_eq_true, decide_eq_true_eq] at hk
  obtain ⟨⟨⟨⟨⟨⟨⟨h1, h2⟩, h3⟩, h4⟩, h5⟩, h6⟩, h7⟩, h8⟩ := hk
  exact wpAnyE_first hi (Region.noSelect_spec h1) hQ h5 h6 h7 h8 fuel listed a w (headB_inv h4) (Region.free_spec hi h2) (by simpa using h3) hy hS h

theorem wpAnyE_take7 {i : Nat} {oi : Oper} {v : Value} {fuel : Nat} {listed : Array Bool} {a : Act} {w : World} (hi : ops[i]? = some oi)
    (h1 : Region.noSelect ops = true) (h2 : Region.free md ops listed i = true) (h3 : (Region.ready md ops listed).contains i = true) (h4 : headB md ops l listed = true) (h5 : Region.sinkB md ops l = true) (h6 : Region.chainB md ops l = true) (h7 : decide (l < ops.size) = true) (h8 : decide (i < l) = true)
    (hQ : ∀ c a w, Q (.panic c) (a.put oi.dst v) w → Q (.panic c) a w) (hy : YieldsIf P ops S oi v a) (hS : S w)
    (h : wpAnyE P md ops Q S l fuel (listed.setIfInBounds i true) (a.put oi.dst v) w) : wpAnyE P md ops Q S l (fuel + 1) listed a w :=
  wpAnyE_take hi (by rw [h1, h2, h3, h4, h5, h6, h7, h8]; rfl) hQ hy hS h

/-- One alone may come up. -/
theorem wpAnyE_one {k : Nat} {o : Oper} {fuel : Nat} {listed : Array Bool} {a : Act} {w : World} (hr : Region.ready md ops listed = [k]) (ho : ops[k]? = some o)
    (h : ∀ K' : Act → World → Prop, Shut (∀ a w, (k ≠ l → S w) → wpAnyE P md ops Q S l fuel (listed.setIfInBounds k true) a w → K' a w) → if Region.wanted o (yielded ops a.tmps) = true then Oper.wp P o a w K' Q else K' (a.put o.dst undef) w) :
    wpAnyE P md ops Q S l (fuel + 1) listed a w := by
  refine ⟨fun h0 => (by rw [h0] at hr; cases hr), fun i hi => ?_⟩
  rw [hr] at hi
  have hik : i = k := by simpa using hi
  subst hik
  exact wpOp_step ho (fun K' hK => h K' (fun a w hS hW => hK a w ⟨hS, hW⟩))

theorem wpAnyE_done {listed : Array Bool} {a : Act} {w : World} (hr : Region.ready md ops listed = []) (h : Q .normal a w) : ∀ fuel, wpAnyE P md ops Q S l fuel listed a w
  | 0 => ⟨hr, h⟩
  | _ + 1 => ⟨fun _ => h, by rw [hr]; simp⟩
end
end Go.Proofs.YtglddnkpccgchaaDoor
