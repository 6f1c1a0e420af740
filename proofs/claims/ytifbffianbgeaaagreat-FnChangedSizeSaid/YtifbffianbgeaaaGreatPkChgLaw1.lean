/- Contracts and plain laws, part 1, for the statement's proof. -/
import Derived.Test.YtifbffianbgeaaaGreatRows
import Derived.WalkKit
import Derived.Deep.Draws
import Derived.Lib.Hide
import Derived.ProofKit
import Derived.OpenShut
import Derived.Lib.SmallJoins
import Derived.Deep.RegionHeld3
import Derived.Deep.QuietTactic
import Derived.BigQuiet
import Derived.Deep.RegionHeldLaw
import Derived.StillTail
import Derived.Deep.Slices
import Derived.BigRegion
import Derived.Deep.AppendSrc
import Derived.Laws.AppendOwn
import Derived.Lib.SliceRun
import Derived.Shelf.Abstract
import Derived.WalkLawsBesides
namespace Go.Proofs.YtifbffianbgeaaaGreat
open Go.RowKit
theorem below_drewN {B : Nat} {a w : World} (h : Below B a w) (n : Nat) : Below B a (w.drewN n) := h.trans ⟨rfl, rfl, rfl, Nat.le_refl _, fun _ _ => rfl⟩
theorem below_of_drewN (w : World) (n : Nat) : Below w.heap.size w (w.drewN n) := below_drewN (Below.refl _ _) n
theorem below_on {a W w1 : World} (hb : Below W.heap.size W w1) (h : Below a.heap.size a W) : Below a.heap.size a w1 := h.trans (hb.mono h.size)
theorem below_al {a W : World} (h : Below a.heap.size a W) (o : Obj) : Below a.heap.size a (W.alloc o) := h.alloc h.size o
theorem with_fact {p q : Prop} (hp : p) (k : p → q) : q := k hp
theorem ret_i64 {a b : Int} (h : a = b) : Ending.returned (.int .i64 a) = .returned (.int .i64 b) := by rw [h]
theorem ret_u64 {a b : Int} (h : a = b) : Ending.returned (.int .u64 a) = .returned (.int .u64 b) := by rw [h]
theorem ret_bool {a b : Bool} (h : a = b) : Ending.returned (.bool a) = .returned (.bool b) := by rw [h]
/- What the arguments' readings give: one opener a shape. -/
open Go.ChangeShapes Go.WideShapes Go.ChangeAt Go.RowKit Go.Joins
/- Blocks of memory that a walk knows whole: carried over a callee's contract without any reckoning of sizes. -/
def Blk (w : World) (g : Nat) (cs : Array Value) (T : TypeId) : Prop := w.heap[g]? = some (.cells cs T (0, 0))
section
variable {w w1 : World} {g : Nat} {cs : Array Value} {T : TypeId}
theorem Blk.cell (h : Blk w g cs T) : ∀ o, w.cell? ⟨g, o, none⟩ = cs[o]? := fun o => by unfold Blk at h; simp [World.cell?, h]
theorem Blk.free (h : Blk w g cs T) : ∀ o, w.frozen? ⟨g, o, none⟩ = false := fun o => by unfold Blk at h; simp [World.frozen?, h]
theorem Blk.both (h : Blk w g cs T) : Blk w g cs T ∧ ∀ o, w.cell? ⟨g, o, none⟩ = cs[o]? := ⟨h, h.cell⟩
theorem Blk.lt (h : Blk w g cs T) : g < w.heap.size := by
  unfold Blk at h
  rcases Nat.lt_or_ge g w.heap.size with h' | h'
  · exact h'
  · rw [Array.getElem?_eq_none h'] at h; cases h
theorem Blk.by (hb : Below w.heap.size w w1) (h : Blk w g cs T) : Blk w1 g cs T := (hb.block g h.lt).trans h
theorem Blk.new (n : Nat) (hn : n = w.heap.size) : Blk (w.alloc (.cells cs T)) n cs T := by subst hn; unfold Blk World.alloc; simp
theorem Blk.past (h : Blk w g cs T) (o : Obj) : Blk (w.alloc o) g cs T := (Below.heap_alloc w o g h.lt).trans h
theorem Blk.drew (h : Blk w g cs T) : Blk w.drew g cs T := h
theorem Blk.drewN (h : Blk w g cs T) (n : Nat) : Blk (w.drewN n) g cs T := h
theorem Blk.set (h : Blk w g cs T) (o : Nat) (v : Value) : Blk (w.setCell ⟨g, o, none⟩ v) g (cs.setIfInBounds o v) T := by
  unfold Blk at *
  simp [World.setCell, Array.getElem?_modify, h]
theorem Blk.apart (h : Blk w g cs T) (b o : Nat) (v : Value) (hne : g ≠ b) : Blk (w.setCell ⟨b, o, none⟩ v) g cs T := by
  exact (Below.heap_setCell w ⟨b, o, none⟩ v g hne).trans h
theorem Blk.set2 {a b x y : Value} (h : Blk w g #[a, b] T) : Blk ((w.setCell ⟨g, 0, none⟩ x).setCell ⟨g, 1, none⟩ y) g #[x, y] T := (h.set 0 x).set 1 y
theorem Blk.set1 {a x : Value} (h : Blk w g #[a] T) : Blk (w.setCell ⟨g, 0, none⟩ x) g #[x] T := h.set 0 x
end
theorem blwT {B : Nat} {a w : World} (h : Below B a w := by ((repeat (first | (with_reducible exact Below.refl _ _) | (with_reducible refine below_drewN ?_ _) | (with_reducible refine Below.drew ?_) | (with_reducible refine below_al ?_ _) | (with_reducible refine below_on (by assumption) ?_) | ((with_reducible refine Below.setCell ?_ ?_ _); rotate_left; focus (first | omega | (simp; done) | (simp; omega))) | (with_reducible assumption))); done)) : Below B a w := h
theorem blkT {w : World} {g : Nat} {cs : Array Value} {T : TypeId} (h : Blk w g cs T := by ((repeat (first | (with_reducible assumption) | (with_reducible refine Blk.drewN ?_ _) | (with_reducible refine Blk.drew ?_) | ((with_reducible refine Blk.new _ ?_); focus (first | omega | (simp; done) | (simp; omega))) | (with_reducible refine Blk.past ?_ _) | ((with_reducible refine Blk.apart ?_ _ _ _ ?_); rotate_left; focus (first | omega | (simp; done) | (simp; omega))) | (with_reducible refine Blk.by (by assumption) ?_))); done)) : Blk w g cs T := h
/- Worlds in which one block alone has turned. -/
structure Only (g : Nat) (w w' : World) : Prop where
  os : w'.os = w.os
  tape : w'.tape = w.tape
  output : w'.output = w.output
  size : w'.heap.size = w.heap.size
  block : ∀ k, k ≠ g → w'.heap[k]? = w.heap[k]?
theorem Only.refl (g : Nat) (w : World) : Only g w w := ⟨rfl, rfl, rfl, rfl, fun _ _ => rfl⟩
theorem Only.set {g : Nat} {a w : World} (h : Only g a w) (o : Nat) (v : Value) : Only g a (w.setCell ⟨g, o, none⟩ v) :=
  ⟨h.os, h.tape, h.output, by simp [World.setCell, h.size], fun k hk => (Below.heap_setCell w ⟨g, o, none⟩ v k hk).trans (h.block k hk)⟩
theorem Only.drewN {g : Nat} {a w : World} (h : Only g a w) (n : Nat) : Only g a (w.drewN n) := ⟨h.os, h.tape, h.output, h.size, h.block⟩
theorem Only.below {g B : Nat} {a w w' : World} (h : Only g w w') (hb : Below B a w) (hg : B ≤ g) : Below B a w' :=
  hb.trans ⟨h.os, h.tape, h.output, Nat.le_of_eq h.size.symm, fun k hk => h.block k (by omega)⟩
theorem Only.blk {g f : Nat} {w w' : World} {cs : Array Value} {T : TypeId} (h : Only g w w') (hf : Blk w f cs T) (hne : f ≠ g) : Blk w' f cs T := (h.block f hne).trans hf
/- Slices of int64: what a walk knows of one, and the contracts of the functions of package laws over them. -/
set_option linter.unusedVariables false
set_option linter.unusedSimpArgs false
def IntSl (w : World) (sv : Value) (zs : List Int) : Prop :=
  (∃ a c, sv = .slice a 0 c ∧ zs = []) ∨ ∃ b off cap, sv = .slice (some ⟨b, off, none⟩) zs.length cap ∧ zs.length ≤ cap ∧ cap ≤ maxLen ∧ ∀ (i : Nat) (x : Int), zs[i]? = some x → w.cell? ⟨b, off + i, none⟩ = some (.int .i64 x)
def IBlk (w : World) (g : Nat) (zs : List Int) : Prop := ∃ cs : Array Value, Blk w g cs 2 ∧ cs.size = zs.length ∧ ∀ (i : Nat) (x : Int), zs[i]? = some x → cs[i]? = some (Value.int .i64 x)
def Fits (x : Int) : Prop := -9223372036854775808 ≤ x ∧ x ≤ 9223372036854775807
theorem cell_by' {w w1 : World} {p : Addr} {v : Value} (hb : Below w.heap.size w w1) (h : w.cell? p = some v) : w1.cell? p = some v := by
  have hlt : p.block < w.heap.size := by
    rcases Nat.lt_or_ge p.block w.heap.size with h' | h'
    · exact h'
    · simp [World.cell?, Array.getElem?_eq_none h'] at h
  rw [hb.cell hlt]; exact h
theorem IntSl.by {w w1 : World} {sv : Value} {zs : List Int} (hb : Below w.heap.size w w1) (h : IntSl w sv zs) : IntSl w1 sv zs := by
  rcases h with h | ⟨b, off, cap, h1, h2, h3, h4⟩
  · exact .inl h
  · exact .inr ⟨b, off, cap, h1, h2, h3, fun i x hx => cell_by' hb (h4 i x hx)⟩
theorem IntSl.len {w : World} {sv : Value} {zs : List Int} (h : IntSl w sv zs) : ∃ a c, sv = .slice a zs.length c := by
  rcases h with ⟨a, c, h1, h2⟩ | ⟨b, off, cap, h1, _⟩
  · subst h2; exact ⟨a, c, h1⟩
  · exact ⟨_, _, h1⟩
theorem IntSl.le {w : World} {sv : Value} {zs : List Int} (h : IntSl w sv zs) : zs.length ≤ 9223372036854775807 := by
  rcases h with ⟨a, c, h1, h2⟩ | ⟨b, off, cap, h1, h2, h3, _⟩
  · subst h2; simp
  · unfold maxLen at h3; omega
theorem IBlk.by {w w1 : World} {g : Nat} {zs : List Int} (hb : Below w.heap.size w w1) (h : IBlk w g zs) : IBlk w1 g zs := by
  obtain ⟨cs, h1, h2⟩ := h; exact ⟨cs, Blk.by hb h1, h2⟩
theorem IBlk.sl {w : World} {g : Nat} {zs : List Int} (h : IBlk w g zs) (hm : zs.length ≤ 9223372036854775807) : IntSl w (.slice (some ⟨g, 0, none⟩) zs.length zs.length) zs := by
  obtain ⟨cs, h1, h2, h3⟩ := h
  refine .inr ⟨g, 0, zs.length, rfl, Nat.le_refl _, by unfold maxLen; omega, fun i x hx => ?_⟩
  rw [Nat.zero_add, h1.cell]; exact h3 i x hx
theorem IBlk.alloc {w : World} {g : Nat} {zs : List Int} (h : IBlk w g zs) (o : Obj) : IBlk (w.alloc o) g zs := by
  obtain ⟨cs, h1, h2⟩ := h; exact ⟨cs, h1.past o, h2⟩
theorem IBlk.apart {w : World} {g : Nat} {zs : List Int} (h : IBlk w g zs) (b o : Nat) (v : Value) (hne : g ≠ b) : IBlk (w.setCell ⟨b, o, none⟩ v) g zs := by
  obtain ⟨cs, h1, h2⟩ := h; exact ⟨cs, h1.apart b o v hne, h2⟩
theorem IBlk.drewN {w : World} {g : Nat} {zs : List Int} (h : IBlk w g zs) (n : Nat) : IBlk (w.drewN n) g zs := by
  obtain ⟨cs, h1, h2⟩ := h; exact ⟨cs, h1.drewN n, h2⟩
theorem IBlk.lt {w : World} {g : Nat} {zs : List Int} (h : IBlk w g zs) : g < w.heap.size := by
  obtain ⟨cs, h1, h2⟩ := h; exact h1.lt
theorem infoI : (Tryz.prog.info? 2).map (fun i => (i.zero, i.size, i.bytes)) = some (some (.int .i64 0), 1, 8) := by kernel_rfl
theorem make_ints (n : Nat) (hn : n ≤ 1048576) (w : World) : ∃ cs : Array Value, cs.size = n ∧ (∀ i, i < n → cs[i]? = some (Value.int .i64 0)) ∧ (Instr.makeSlice 27 (.int .i64 n) (.int .i64 n)).run Tryz.prog w = .ok (.slice (some ⟨w.heap.size, 0, none⟩) n n) (w.alloc (.cells cs 2)) := by
  obtain ⟨i0, hi, hz0, hz1, hz2⟩ := info_parts infoI
  have h := run_make (P := Tryz.prog) w 27 2 i0 _ Tryz.underlying27 hi hz0 .i64 .i64 (n : Int) (n : Int) (by omega) (by omega) (by rw [hz2]; omega) (by omega)
  simp only [Int.toNat_natCast, hz1, Nat.mul_one] at h
  refine ⟨_, size_madeCells _ _, fun i hi => ?_, h⟩
  simp [madeCells, hi, Value.cells, Nat.mod_one]
/- The first place at which a predicate holds: plain. -/
def fidx {α : Type} (p : α → Bool) (xs : List α) : Int := match xs.findIdx? p with | some k => (k : Int) | none => -1
section
variable {α : Type} {p : α → Bool} {xs : List α}
theorem fidx_hit {k : Nat} {x : α} (hk : xs[k]? = some x) (hp : p x = true) (hb : ∀ j y, j < k → xs[j]? = some y → p y = false) : fidx p xs = k := by
  have : xs.findIdx? p = some k := by
    rw [List.findIdx?_eq_some_iff_getElem]
    obtain ⟨h, e⟩ := List.getElem?_eq_some_iff.1 hk
    refine ⟨h, by rw [e]; exact hp, fun j hj => ?_⟩
    have := hb j xs[j] hj (List.getElem?_eq_getElem (by omega))
    simp [this]
  simp [fidx, this]
theorem fidx_miss (hb : ∀ (j : Nat) y, xs[j]? = some y → p y = false) : fidx p xs = -1 := by
  have : xs.findIdx? p = none := by
    rw [List.findIdx?_eq_none_iff]
    intro x hx
    obtain ⟨j, hj, e⟩ := List.mem_iff_getElem.1 hx
    have := hb j x (by rw [List.getElem?_eq_getElem hj, e])
    simp [this]
  simp [fidx, this]
theorem fidx_any : decide (0 ≤ fidx p xs) = xs.any p := by
  unfold fidx
  cases h : xs.findIdx? p with
  | none =>
    rw [List.findIdx?_eq_none_iff] at h
    have : xs.any p = false := by rw [List.any_eq_false]; intro x hx; simp [h x hx]
    simp [this]
  | some k =>
    rw [List.findIdx?_eq_some_iff_getElem] at h
    obtain ⟨h, e, _⟩ := h
    have : xs.any p = true := by rw [List.any_eq_true]; exact ⟨_, List.getElem_mem h, e⟩
    simp [this]
end
/- Regions that draw their order and whose last operation stores into what they read: what must hold of the world need not hold behind that last operation. -/
section
variable {P : Program} {ops : Array Oper} {Q : Exit → Act → World → Prop} {md : Region.Mode} {S : World → Prop} {l : Nat}
def wpAnyE (P : Program) (md : Region.Mode) (ops : Array Oper) (Q : Exit → Act → World → Prop) (S : World → Prop) (l : Nat) : Nat → Array Bool → Act → World → Prop
  | 0, listed, a, w => Region.ready md ops listed = [] ∧ Q .normal a w
  | fuel + 1, listed, a, w =>
    (Region.ready md ops listed = [] → Q .normal a w) ∧
    ∀ i ∈ Region.ready md ops listed, wpOp P ops Q i (fun a' w' => (i ≠ l → S w') ∧ wpAnyE P md ops Q S l fuel (listed.setIfInBounds i true) a' w') a w
theorem wpAny_of_E : ∀ (fuel : Nat) (listed : Array Bool) (a : Act) (w : World), wpAnyE P md ops Q S l fuel listed a w → wpAny P md ops Q fuel listed a w
  | 0, _, _, _, h => h
  | fuel + 1, _, _, _, h => ⟨h.1, fun i hi => wpOp_mono (fun a' w' h' => wpAny_of_E fuel _ a' w' h'.2) (h.2 i hi)⟩
theorem wpAnyE_first {i : Nat} {oi : Oper} {v : Value} (hi : ops[i]? = some oi) (hsel : ∀ (j : Nat) (o : Oper) cs b, ops[j]? = some o → o.op ≠ .select cs b)
    (hQ : ∀ c a w, Q (.panic c) (a.put oi.dst v) w → Q (.panic c) a w) (hs : Region.sinkB md ops l = true) (hc : Region.chainB md ops l = true) (hn : l < ops.size) (hil : i < l) :
    ∀ (fuel : Nat) (listed : Array Bool) (a : Act) (w : World), HeadInv md ops l listed →
      (∀ j oj, ops[j]? = some oj → j ≠ i → listed.getD j true = false → (∀ e ∈ oj.after, Region.binds md e = true → e.on ≠ i) → oi.apart ops oj = true) →
      i ∈ Region.ready md ops listed → YieldsIf P ops S oi v a → S w →
      wpAnyE P md ops Q S l fuel (listed.setIfInBounds i true) (a.put oi.dst v) w → wpAnyE P md ops Q S l (fuel + 1) listed a w := by
  intro fuel
  induction fuel with
  | zero =>
    intro listed a w inv _ hr hy hS H
    refine ⟨fun h => (by rw [h] at hr; cases hr), fun j hj => ?_⟩
    by_cases hji : j = i
    · subst hji; exact hy.wpOp hi hS ⟨fun _ => hS, H⟩
    · have := ready_mono hj hji
      rw [H.1] at this
      cases this
  | succ fuel ih =>
    intro listed a w inv hfree hr hy hS H
    have hun := (mem_ready.1 hr).1
    refine ⟨fun h => (by rw [h] at hr; cases hr), fun j hj => ?_⟩
    have hjl : j < l := by
      rcases Nat.lt_or_ge j l with h | h
      · exact h
      · exact absurd hj (tail_waits hs hc hn inv _ i rfl hil hun j h)
    by_cases hji : j = i
    · subst hji; exact hy.wpOp hi hS ⟨fun _ => hS, H⟩
    · have h1 := H.2 j (ready_mono hj hji)
      obtain ⟨hjun, oj, hoj, hall⟩ := mem_ready.1 hj
      have hnot : ∀ e ∈ oj.after, Region.binds md e = true → e.on ≠ i := fun e he hb heq => by
        have h1 := hall e he hb
        rw [heq, getD_both hun] at h1
        cases h1
      have h2 := wpOp_putIf hoj (hfree j oj hoj hji hjun hnot) (fun cs b => hsel i oi cs b hi) (fun cs b => hsel j oj cs b hoj) hQ hy h1
      have hfree' : ∀ k ok, ops[k]? = some ok → k ≠ i → (listed.setIfInBounds j true).getD k true = false →
          (∀ e ∈ ok.after, Region.binds md e = true → e.on ≠ i) → oi.apart ops ok = true := fun k ok hk hki hun hno => by
        refine hfree k ok hk hki ?_ hno
        by_cases hjk : j = k
        · subst hjk; exact hjun
        · rw [getD_set_ne true hjk] at hun; exact hun
      refine wpOp_mono (fun a' w' h3 => ⟨h3.2.1, ih (listed.setIfInBounds j true) a' w' (inv.set hj hjl) hfree' (ready_mono hr (Ne.symm hji)) h3.1 (h3.2.1 (by omega)) ?_⟩) h2
      rw [Array.setIfInBounds_comm _ _ hji]
      exact h3.2.2
def headB (md : Region.Mode) (ops : Array Oper) (l : Nat) (listed : Array Bool) : Bool :=
  decide (listed.size = ops.size) && ((List.range ops.size).all fun j => !listed.getD j false || ((ops[j]?).map (·.after.all fun e => !Region.binds md e || listed.getD e.on false)).getD true) && ((List.range ops.size).all fun t => decide (t < l) || !listed.getD t true)
theorem headB_inv {listed : Array Bool} (h : headB md ops l listed = true) : HeadInv md ops l listed := by
  simp only [headB, Bool.and_eq_true, decide_eq_true_eq, List.all_eq_true, List.mem_range, Bool.or_eq_true, Bool.not_eq_true'] at h
  obtain ⟨⟨h1, h2⟩, h3⟩ := h
  refine ⟨h1, fun j oj hj hl e he hb => ?_, fun t ht ht' => ?_⟩
  · have hlt : j < ops.size := (Array.getElem?_eq_some_iff.1 hj).1
    rcases h2 j hlt with h | h
    · rw [hl] at h; cases h
    · rw [hj] at h
      simp only [Option.map_some, Option.getD_some, Array.all_eq_true_iff_forall_mem, Bool.or_eq_true, Bool.not_eq_true'] at h
      rcases h e he with h | h
      · rw [hb] at h; cases h
      · exact h
  · rcases h3 t ht' with h | h
    · omega
    · exact h
theorem wpAnyE_take {i : Nat} {oi : Oper} {v : Value} {fuel : Nat} {listed : Array Bool} {a : Act} {w : World} (hi : ops[i]? = some oi)
    (hk : (Region.noSelect ops && Region.free md ops listed i && (Region.ready md ops listed).contains i && headB md ops l listed && Region.sinkB md ops l && Region.chainB md ops l && decide (l < ops.size) && decide (i < l)) = true)
    (hQ : ∀ c a w, Q (.panic c) (a.put oi.dst v) w → Q (.panic c) a w) (hy : YieldsIf P ops S oi v a) (hS : S w)
    (h : wpAnyE P md ops Q S l fuel (listed.setIfInBounds i true) (a.put oi.dst v) w) : wpAnyE P md ops Q S l (fuel + 1) listed a w := by
  simp only [Bool.and_eq_true, decide_eq_true_eq] at hk
  obtain ⟨⟨⟨⟨⟨⟨⟨h1, h2⟩, h3⟩, h4⟩, h5⟩, h6⟩, h7⟩, h8⟩ := hk
  exact wpAnyE_first hi (Region.noSelect_spec h1) hQ h5 h6 h7 h8 fuel listed a w (headB_inv h4) (Region.free_spec hi h2) (by simpa using h3) hy hS h
theorem wpAnyE_one {k : Nat} {o : Oper} {fuel : Nat} {listed : Array Bool} {a : Act} {w : World} (hr : Region.ready md ops listed = [k]) (ho : ops[k]? = some o)
    (h : ∀ K' : Act → World → Prop, Shut (∀ a w, (k ≠ l → S w) → wpAnyE P md ops Q S l fuel (listed.setIfInBounds k true) a w → K' a w) → if Region.wanted o (yielded ops a.tmps) = true then Oper.wp P o a w K' Q else K' (a.put o.dst undef) w) :
    wpAnyE P md ops Q S l (fuel + 1) listed a w := by
  refine ⟨fun h0 => (by rw [h0] at hr; cases hr), fun i hi => ?_⟩
  rw [hr] at hi
  have hik : i = k := by simpa using hi
  subst hik
  exact wpOp_step ho (fun K' hK => h K' (fun a w hS hW => hK a w ⟨hS, hW⟩))
theorem wpAnyE_done {listed : Array Bool} {a : Act} {w : World} (hr : Region.ready md ops listed = []) (h : Q .normal a w) : ∀ fuel, wpAnyE P md ops Q S l fuel listed a w
  | 0 => ⟨hr, h⟩
  | _ + 1 => ⟨fun _ => h, by rw [hr]; simp⟩
end
/- The opener of a device that came in. -/
open Go.ChangeShapes Go.WideShapes Go.ChangeAt Go.RowKit Go.Joins Go.Deep
section
variable {H : Type} {enc : TypeId × Value → H} {W : World} {base : Nat} {spare : Nat → Bool} {held : Bool}
end
/- Slices of devices: what a walk knows of one. -/
structure Dv where
  kind : Int
  pins : List Int
  wd : Int
  len : Int
def DvAt (w : World) (g o : Nat) (x : Dv) : Prop :=
  ∃ sv, w.cell? ⟨g, o, none⟩ = some (.int .i64 x.kind) ∧ w.cell? ⟨g, o + 1, none⟩ = some sv ∧ w.cell? ⟨g, o + 2, none⟩ = some (.int .i64 x.wd) ∧ w.cell? ⟨g, o + 3, none⟩ = some (.int .i64 x.len) ∧ IntSl w sv x.pins
def DvSl (w : World) (sv : Value) (xs : List Dv) : Prop :=
  (∃ a c, sv = .slice a 0 c ∧ xs = []) ∨ ∃ b off cap, sv = .slice (some ⟨b, off, none⟩) xs.length cap ∧ xs.length ≤ cap ∧ cap ≤ maxLen ∧ ∀ (i : Nat) (x : Dv), xs[i]? = some x → DvAt w b (off + i * 4) x
def Dv.ok (x : Dv) : Prop := Fits x.kind ∧ Fits x.wd ∧ Fits x.len ∧ ∀ z ∈ x.pins, Fits z
theorem DvAt.by {w w1 : World} {g o : Nat} {x : Dv} (hb : Below w.heap.size w w1) (h : DvAt w g o x) : DvAt w1 g o x := by
  obtain ⟨sv, h1, h2, h3, h4, h5⟩ := h
  exact ⟨sv, cell_by' hb h1, cell_by' hb h2, cell_by' hb h3, cell_by' hb h4, h5.by hb⟩
theorem DvSl.by {w w1 : World} {sv : Value} {xs : List Dv} (hb : Below w.heap.size w w1) (h : DvSl w sv xs) : DvSl w1 sv xs := by
  rcases h with h | ⟨b, off, cap, h1, h2, h3, h4⟩
  · exact .inl h
  · exact .inr ⟨b, off, cap, h1, h2, h3, fun i x hx => (h4 i x hx).by hb⟩
theorem DvSl.sized {w : World} {sv : Value} {xs : List Dv} (h : DvSl w sv xs) : ∃ a c, sv = .slice a xs.length c := by
  rcases h with ⟨a, c, h1, h2⟩ | ⟨b, off, cap, h1, _⟩
  · subst h2; exact ⟨a, c, h1⟩
  · exact ⟨_, _, h1⟩
/- The size of a slice of devices. -/
/- toDeviceS: a slice of devices of the call's own. -/
def Cs4 (cs : Array Value) (i : Nat) (a b c d : Value) : Prop := cs[i * 4]? = some a ∧ cs[i * 4 + 1]? = some b ∧ cs[i * 4 + 2]? = some c ∧ cs[i * 4 + 3]? = some d
def DvIn (w : World) (g : Nat) (cs : Array Value) (i : Nat) (x : Dv) : Prop :=
  ∃ gp, g < gp ∧ IBlk w gp x.pins ∧ Cs4 cs i (.int .i64 x.kind) (.slice (some ⟨gp, 0, none⟩) x.pins.length x.pins.length) (.int .i64 x.wd) (.int .i64 x.len)
theorem DvIn.by {w w1 : World} {g : Nat} {cs : Array Value} {i : Nat} {x : Dv} (hb : Below w.heap.size w w1) (h : DvIn w g cs i x) : DvIn w1 g cs i x := by
  obtain ⟨gp, h1, h2, h3⟩ := h; exact ⟨gp, h1, h2.by hb, h3⟩
theorem DvIn.apart {w : World} {g : Nat} {cs : Array Value} {i : Nat} {x : Dv} (h : DvIn w g cs i x) (b o : Nat) (v : Value) (hb : b ≤ g) : DvIn (w.setCell ⟨b, o, none⟩ v) g cs i x := by
  obtain ⟨gp, h1, h2, h3⟩ := h; exact ⟨gp, h1, h2.apart _ _ _ (by omega), h3⟩
def DvBlk (w : World) (g : Nat) (xs : List Dv) : Prop := ∃ cs : Array Value, Blk w g cs 62 ∧ cs.size = xs.length * 4 ∧ ∀ (i : Nat) (x : Dv), xs[i]? = some x → DvIn w g cs i x
theorem DvBlk.by {w w1 : World} {g : Nat} {xs : List Dv} (hb : Below w.heap.size w w1) (h : DvBlk w g xs) : DvBlk w1 g xs := by
  obtain ⟨cs, h1, h2, h3⟩ := h; exact ⟨cs, Blk.by hb h1, h2, fun i x hx => (h3 i x hx).by hb⟩
theorem DvBlk.lt {w : World} {g : Nat} {xs : List Dv} (h : DvBlk w g xs) : g < w.heap.size := by
  obtain ⟨cs, h1, h2⟩ := h; exact h1.lt
theorem DvBlk.apart {w : World} {g : Nat} {xs : List Dv} (h : DvBlk w g xs) (b o : Nat) (v : Value) (hb : b < g) : DvBlk (w.setCell ⟨b, o, none⟩ v) g xs := by
  obtain ⟨cs, h1, h2, h3⟩ := h; exact ⟨cs, h1.apart b o v (by omega), h2, fun i x hx => (h3 i x hx).apart b o v (by omega)⟩
theorem infoDev : (Tryz.prog.info? 62).map (fun i => (i.zero, i.size, i.bytes)) = some (some (.agg #[.int .i64 0, .slice none 0 0, .int .i64 0, .int .i64 0]), 4, 48) := by kernel_rfl
/- eqDeviceS over two slices that read alike. -/
theorem DvBlk.sl {w : World} {g : Nat} {xs : List Dv} (h : DvBlk w g xs) (hm : xs.length ≤ maxLen) (hp : ∀ x ∈ xs, x.pins.length ≤ 9223372036854775807) : DvSl w (.slice (some ⟨g, 0, none⟩) xs.length xs.length) xs := by
  obtain ⟨cs, h1, h2, h3⟩ := h
  refine .inr ⟨g, 0, xs.length, rfl, Nat.le_refl _, hm, fun i x hx => ?_⟩
  obtain ⟨gp, q1, q2, e1, e2, e3, e4⟩ := h3 i x hx
  have hc := h1.cell
  simp only [Nat.zero_add]
  exact ⟨_, by rw [hc]; exact e1, by rw [hc]; exact e2, by rw [hc]; exact e3, by rw [hc]; exact e4, q2.sl (hp x (List.mem_of_getElem? hx))⟩
/- Contracts of the functions of package laws over a matching. -/
def MaV (w : World) (v : Value) (x : List Int × List Int) : Prop := ∃ s1 s2, v = .agg #[s1, s2] ∧ IntSl w s1 x.1 ∧ IntSl w s2 x.2
theorem MaV.by {w w1 : World} {v : Value} {x : List Int × List Int} (hb : Below w.heap.size w w1) (h : MaV w v x) : MaV w1 v x := by
  obtain ⟨s1, s2, h1, h2, h3⟩ := h; exact ⟨s1, s2, h1, h2.by hb, h3.by hb⟩
theorem MaV.sized {w : World} {v : Value} {x : List Int × List Int} (h : MaV w v x) : ∃ a c a' c', v = .agg #[.slice a x.1.length c, .slice a' x.2.length c'] := by
  obtain ⟨s1, s2, rfl, hd, hp⟩ := h
  obtain ⟨a, c, rfl⟩ := hd.len
  obtain ⟨a', c', rfl⟩ := hp.len
  exact ⟨a, c, a', c', rfl⟩
structure Pt where
  name : ByteArray
  net : Int
def PtAt (w : World) (g o : Nat) (x : Pt) : Prop :=
  w.cell? ⟨g, o, none⟩ = some (.string x.name) ∧ w.cell? ⟨g, o + 1, none⟩ = some (.int .i64 x.net)
def PtSl (w : World) (sv : Value) (xs : List Pt) : Prop :=
  (∃ a c, sv = .slice a 0 c ∧ xs = []) ∨ ∃ b off cap, sv = .slice (some ⟨b, off, none⟩) xs.length cap ∧ xs.length ≤ cap ∧ cap ≤ maxLen ∧ ∀ (i : Nat) (x : Pt), xs[i]? = some x → PtAt w b (off + i * 2) x
theorem PtAt.by {w w1 : World} {g o : Nat} {x : Pt} (hb : Below w.heap.size w w1) (h : PtAt w g o x) : PtAt w1 g o x := ⟨cell_by' hb h.1, cell_by' hb h.2⟩
theorem PtSl.by {w w1 : World} {sv : Value} {xs : List Pt} (hb : Below w.heap.size w w1) (h : PtSl w sv xs) : PtSl w1 sv xs := by
  rcases h with h | ⟨b, off, cap, h1, h2, h3, h4⟩
  · exact .inl h
  · exact .inr ⟨b, off, cap, h1, h2, h3, fun i x hx => (h4 i x hx).by hb⟩
theorem PtSl.sized {w : World} {sv : Value} {xs : List Pt} (h : PtSl w sv xs) : ∃ a c, sv = .slice a xs.length c := by
  rcases h with ⟨a, c, h1, h2⟩ | ⟨b, off, cap, h1, _⟩
  · subst h2; exact ⟨a, c, h1⟩
  · exact ⟨_, _, h1⟩
/- Contracts of the functions of package laws over a port. -/
/- The size of a slice of ports. -/
def Pt.ok (x : Pt) : Prop := x.name.size ≤ 9223372036854775807 ∧ Fits x.net
/- toPortS and eqPortS. -/
def Cs2 (cs : Array Value) (i : Nat) (a b : Value) : Prop := cs[i * 2]? = some a ∧ cs[i * 2 + 1]? = some b
def PtBlk (w : World) (g : Nat) (xs : List Pt) : Prop := ∃ cs : Array Value, Blk w g cs 98 ∧ cs.size = xs.length * 2 ∧ ∀ (i : Nat) (x : Pt), xs[i]? = some x → Cs2 cs i (.string x.name) (.int .i64 x.net)
theorem PtBlk.by {w w1 : World} {g : Nat} {xs : List Pt} (hb : Below w.heap.size w w1) (h : PtBlk w g xs) : PtBlk w1 g xs := by
  obtain ⟨cs, h1, h2⟩ := h; exact ⟨cs, Blk.by hb h1, h2⟩
theorem PtBlk.apart {w : World} {g : Nat} {xs : List Pt} (h : PtBlk w g xs) (b o : Nat) (v : Value) (hb : g ≠ b) : PtBlk (w.setCell ⟨b, o, none⟩ v) g xs := by
  obtain ⟨cs, h1, h2⟩ := h; exact ⟨cs, h1.apart b o v hb, h2⟩
theorem PtBlk.sl {w : World} {g : Nat} {xs : List Pt} (h : PtBlk w g xs) (hm : xs.length ≤ maxLen) : PtSl w (.slice (some ⟨g, 0, none⟩) xs.length xs.length) xs := by
  obtain ⟨cs, h1, h2, h3⟩ := h
  refine .inr ⟨g, 0, xs.length, rfl, Nat.le_refl _, hm, fun i x hx => ?_⟩
  obtain ⟨e1, e2⟩ := h3 i x hx
  have hc := h1.cell
  simp only [Nat.zero_add]
  exact ⟨by rw [hc]; exact e1, by rw [hc]; exact e2⟩
theorem infoPt : (Tryz.prog.info? 98).map (fun i => (i.zero, i.size, i.bytes)) = some (some (.agg #[.string ByteArray.empty, .int .i64 0]), 2, 24) := by kernel_rfl
/- toPortS and eqPortS: the walks. -/
/- Contracts of the functions of package laws over netlists. -/
/- toNetlist and eqNetlist. -/
theorem DvBlk.past {w : World} {g : Nat} {xs : List Dv} (h : DvBlk w g xs) (o : Obj) : DvBlk (w.alloc o) g xs := h.by ((Below.refl _ w).alloc (Nat.le_refl _) o)
theorem DvBlk.off {w : World} {g : Nat} {xs : List Dv} (h : DvBlk w g xs) (b o : Nat) (v : Value) (hb : b < g) : DvBlk (w.setCell ⟨b, o, none⟩ v) g xs := h.apart b o v hb
/- eqNetlist over two netlists that read alike. -/
structure Nl where
  nets : Int
  ds : List Dv
  ps : List Pt
def NlV (w : World) (v : Value) (x : Nl) : Prop := ∃ s1 s2, v = .agg #[.int .i64 x.nets, s1, s2] ∧ DvSl w s1 x.ds ∧ PtSl w s2 x.ps
theorem NlV.by {w w1 : World} {v : Value} {x : Nl} (hb : Below w.heap.size w w1) (h : NlV w v x) : NlV w1 v x := by
  obtain ⟨s1, s2, h1, h2, h3⟩ := h; exact ⟨s1, s2, h1, h2.by hb, h3.by hb⟩
/- The opener of a netlist that came in. -/
section
variable {H : Type} {enc : TypeId × Value → H} {W : World} {base : Nat} {spare : Nat → Bool} {held : Bool}
end
/- Small laws on netlists for the walks of the statements. -/
theorem NlV.sized {w : World} {v : Value} {x : Nl} (h : NlV w v x) : ∃ a c a' c', v = .agg #[.int .i64 x.nets, .slice a x.ds.length c, .slice a' x.ps.length c'] := by
  obtain ⟨s1, s2, rfl, hd, hp⟩ := h
  obtain ⟨a, c, rfl⟩ := hd.sized
  obtain ⟨a', c', rfl⟩ := hp.sized
  exact ⟨a, c, a', c', rfl⟩
theorem gcd_tstep (a b : Int) : Int.gcd b (a.tmod b) = Int.gcd a b := by
  unfold Int.gcd
  rw [Int.natAbs_tmod, Nat.gcd_comm a.natAbs b.natAbs, Nat.gcd_rec b.natAbs a.natAbs, Nat.gcd_comm]
theorem gcd_step (a b : Int) (ha : 0 ≤ a) : Int.gcd b (a % b) = Int.gcd a b := by
  rw [← Int.tmod_eq_emod_of_nonneg ha]; exact gcd_tstep a b
def inB (x a b : Int) : Bool := decide (a ≤ x ∧ x ≤ b)
theorem inB_iff {x a b : Int} : inB x a b = true ↔ a ≤ x ∧ x ≤ b := by simp [inB]
theorem inB_not {x a b : Int} : inB x a b = false ↔ ¬ (a ≤ x ∧ x ≤ b) := by simp [inB]
def redN (n d : Int) : Int := (if d < 0 then -n else n).tdiv (Int.gcd n d : Nat)
def redD (n d : Int) : Int := (if d < 0 then -d else d).tdiv (Int.gcd n d : Nat)
theorem redN_lt (n : Int) {d : Int} (h : d < 0) : redN n d = -n.tdiv (Int.gcd n d : Nat) := by unfold redN; rw [if_pos h, Int.neg_tdiv]
theorem redD_lt (n : Int) {d : Int} (h : d < 0) : redD n d = -d.tdiv (Int.gcd n d : Nat) := by unfold redD; rw [if_pos h, Int.neg_tdiv]
theorem redN_ge (n : Int) {d : Int} (h : 0 ≤ d) : redN n d = n.tdiv (Int.gcd n d : Nat) := by unfold redN; rw [if_neg (by omega)]
theorem redD_ge (n : Int) {d : Int} (h : 0 ≤ d) : redD n d = d.tdiv (Int.gcd n d : Nat) := by unfold redD; rw [if_neg (by omega)]
theorem gcd_pos_of (n d : Int) (h : d ≠ 0) : 0 < Int.gcd n d := by
  rcases Nat.eq_zero_or_pos (Int.gcd n d) with h0 | h0
  · exact absurd (Int.gcd_eq_zero_iff.1 h0).2 h
  · exact h0
theorem gcd_le_of (n d : Int) (h : d ≠ 0) : (Int.gcd n d : Int) ≤ d.natAbs := by
  have := Nat.le_of_dvd (by omega) (Int.gcd_dvd_natAbs_right n d)
  omega
theorem gcd_abs (n d : Int) : Int.gcd (n.natAbs : Int) d = Int.gcd n d := by
  unfold Int.gcd; simp
theorem tdiv_bd (n g : Int) (h : 0 < g) (M : Int) (h1 : -M ≤ n) (h2 : n ≤ M) : -M ≤ n.tdiv g ∧ n.tdiv g ≤ M := by
  rcases Int.le_total 0 n with hn | hn
  · rw [Int.tdiv_eq_ediv_of_nonneg hn]
    have := Int.ediv_nonneg hn (by omega : 0 ≤ g)
    have := Int.ediv_le_self g hn
    omega
  · have e : n = -(-n) := by omega
    rw [e, Int.neg_tdiv, Int.tdiv_eq_ediv_of_nonneg (by omega)]
    have := Int.ediv_nonneg (by omega : 0 ≤ -n) (by omega : 0 ≤ g)
    have := Int.ediv_le_self g (by omega : 0 ≤ -n)
    omega
def vrB (n d : Int) : Bool := decide (0 < d) && decide (Int.gcd n d = 1)
theorem vrB_neg (n : Int) {d : Int} (h : d ≤ 0) : vrB n d = false := by simp [vrB]; intro h'; omega
theorem vrB_of (n : Int) {d : Int} (h : 0 < d) : vrB n d = decide (Int.gcd n d = 1) := by simp [vrB, h]
/- Contracts of the two functions that reckon the greatest common divisor, of the sign's removal, of the two interval tests, and of the validity test of a ratio. -/
set_option maxHeartbeats 400000 in
theorem l26Gcd_any (a b : Int) (w : World) (ha : 0 ≤ a) (ha' : a ≤ 9223372036854775807) (hb : 0 ≤ b) (hb' : b ≤ 9223372036854775807) :
    Calls Tryz.prog 125 #[.int .i64 a, .int .i64 b] w fun e w' => e = .returned (.int .i64 (Int.gcd a b : Nat)) ∧ ∃ n, w' = w.drewN n := by
  go_enter Tryz.func125, Tryz.ntmps125
  go_wp2
  go_loopw [0, 1] (fun x y wr => ∃ p q : Int, ∃ n : Nat, x = .int .i64 p ∧ y = .int .i64 q ∧ 0 ≤ p ∧ p ≤ 9223372036854775807 ∧ 0 ≤ q ∧ q ≤ 9223372036854775807 ∧ Int.gcd p q = Int.gcd a b ∧ wr = w.drewN n) (fun _ y _ => (intOf y).toNat)
  case atStart => exact ⟨a, b, 0, rfl, rfl, ha, ha', hb, hb', rfl, rfl⟩
  case round =>
    obtain ⟨p, q, n, rfl, rfl, hp, hp', hq, hq', hg, rfl⟩ := hrel
    have HG := Lib.hid hg
    clear hg
    by_cases hlt : 0 < q
    · have h1 := Int.emod_nonneg p (show q ≠ 0 by omega)
      have h2 := Int.emod_lt_of_pos p hlt
      go_wp2
      go_quiet (fail)
      go_wp2
      exact ⟨⟨q, p % q, n + nq, rfl, rfl, hq, hq', h1, by omega, by rw [gcd_step p q hp]; exact HG.out, World.drewN_drewN _ _ _⟩, by simp [intOf]; omega⟩
    · have h0 : q = 0 := by omega
      subst h0
      have h3 : (p.gcd 0 : Int) = p := by rw [Int.gcd_zero_right]; omega
      have h4 := HG.out
      go_wp2
      go_ret
      exact ⟨ret_i64 (by rw [← h4]; exact h3.symm), n, rfl⟩
set_option maxHeartbeats 400000 in
theorem divisor_any (a b : Int) (w : World) (ha : 0 ≤ a) (ha' : a ≤ 18446744073709551615) (hb : 0 ≤ b) (hb' : b ≤ 18446744073709551615) :
    Calls Tryz.prog 152 #[.int .u64 a, .int .u64 b] w fun e w' => e = .returned (.int .u64 (Int.gcd a b : Nat)) ∧ ∃ n, w' = w.drewN n := by
  go_enter Tryz.func152, Tryz.ntmps152
  go_wp2
  go_loopw [0, 1] (fun x y wr => ∃ p q : Int, ∃ n : Nat, x = .int .u64 p ∧ y = .int .u64 q ∧ 0 ≤ p ∧ p ≤ 18446744073709551615 ∧ 0 ≤ q ∧ q ≤ 18446744073709551615 ∧ Int.gcd p q = Int.gcd a b ∧ wr = w.drewN n) (fun _ y _ => (intOf y).toNat)
  case atStart => exact ⟨a, b, 0, rfl, rfl, ha, ha', hb, hb', rfl, rfl⟩
  case round =>
    obtain ⟨p, q, n, rfl, rfl, hp, hp', hq, hq', hg, rfl⟩ := hrel
    have HG := Lib.hid hg
    clear hg
    by_cases hlt : 0 < q
    · have h1 := Int.emod_nonneg p (show q ≠ 0 by omega)
      have h2 := Int.emod_lt_of_pos p hlt
      go_wp2
      go_quiet (fail)
      go_wp2
      exact ⟨⟨q, p % q, n + nq, rfl, rfl, hq, hq', h1, by omega, by rw [gcd_step p q hp]; exact HG.out, World.drewN_drewN _ _ _⟩, by simp [intOf]; omega⟩
    · have h0 : q = 0 := by omega
      subst h0
      have h3 : (p.gcd 0 : Int) = p := by rw [Int.gcd_zero_right]; omega
      have h4 := HG.out
      go_wp2
      go_ret
      exact ⟨ret_u64 (by rw [← h4]; exact h3.symm), n, rfl⟩
theorem u64_neg (a : Int) (h : a < 0) (ha : -9223372036854775808 ≤ a) : IntKind.u64.wrap (-IntKind.u64.wrap a) = a.natAbs := by
  simp [IntKind.wrap, IntKind.bits, IntKind.signed]; omega
theorem absolute_any (a : Int) (w : World) (ha : -9223372036854775808 ≤ a) (ha' : a ≤ 9223372036854775807) :
    Calls Tryz.prog 153 #[.int .i64 a] w fun e w' => e = .returned (.int .u64 (a.natAbs : Int)) ∧ w = w' := by
  by_cases h : a < 0
  · go_enter Tryz.func153, Tryz.ntmps153
    go_wp2
    go_ret
    exact ⟨ret_u64 (u64_neg a h ha), rfl⟩
  · go_enter Tryz.func153, Tryz.ntmps153
    go_wp2
    go_ret
    exact ⟨ret_u64 (by omega), rfl⟩
theorem l16In_any (x a b : Int) (w : World) :
    Calls Tryz.prog 81 #[.int .i64 x, .int .i64 a, .int .i64 b] w fun e w' => e = .returned (.bool (inB x a b)) ∧ w = w' := by
  go_enter Tryz.func81, Tryz.ntmps81
  go_wp2
  all_goals (go_ret; exact ⟨ret_bool (by simp [inB, *]; try omega), rfl⟩)
theorem within_any (x a b : Int) (w : World) :
    Calls Tryz.prog 87 #[.int .i64 x, .int .i64 a, .int .i64 b] w fun e w' => e = .returned (.bool (inB x a b)) ∧ w = w' := by
  go_enter Tryz.func87, Tryz.ntmps87
  go_wp2
  all_goals (go_ret; exact ⟨ret_bool (by simp [inB, *]; try omega), rfl⟩)
theorem l26Gcd_as (a b : Int) (g : Nat) (w : World) (hg : Int.gcd a b = g) (ha : 0 ≤ a) (ha' : a ≤ 9223372036854775807) (hb : 0 ≤ b) (hb' : b ≤ 9223372036854775807) :
    Calls Tryz.prog 125 #[.int .i64 a, .int .i64 b] w fun e w' => e = .returned (.int .i64 (g : Nat)) ∧ ∃ n, w' = w.drewN n := by
  subst hg; exact l26Gcd_any a b w ha ha' hb hb'
theorem divisor_as (a b : Int) (g : Nat) (w : World) (hg : Int.gcd a b = g) (ha : 0 ≤ a) (ha' : a ≤ 18446744073709551615) (hb : 0 ≤ b) (hb' : b ≤ 18446744073709551615) :
    Calls Tryz.prog 152 #[.int .u64 a, .int .u64 b] w fun e w' => e = .returned (.int .u64 (g : Nat)) ∧ ∃ n, w' = w.drewN n := by
  subst hg; exact divisor_any a b w ha ha' hb hb'
set_option maxHeartbeats 1000000 in
theorem validRatio_any (n d : Int) (w : World) (hn : -9223372036854775808 ≤ n) (hn' : n ≤ 9223372036854775807) (hd : -9223372036854775808 ≤ d) (hd' : d ≤ 9223372036854775807) :
    Calls Tryz.prog 130 #[.agg #[.int .i64 n, .int .i64 d]] w fun e w' => e = .returned (.bool (vrB n d)) ∧ Below w.heap.size w w' := by
  by_cases h0 : 0 < d
  · rw [vrB_of n h0]
    have e1 := Lib.hid (show Int.gcd (n.natAbs : Int) d = n.gcd d from by simp [gcd_abs])
    go_enter Tryz.func130, Tryz.ntmps130
    go_wp2
    go_quiet ((first | (go_at_call 153; exact Calls.quiet_of_same ((absolute_any n _ hn hn').mono fun _ _ h => ⟨h.1, h.2.symm⟩)) | (go_at_call 152; exact Calls.quiet_of (divisor_as _ _ (n.gcd d) _ e1.out (by omega) (by omega) (by omega) (by omega)))))
    go_wp2
    go_ret
    exact ⟨ret_bool (by rw [Bool.eq_iff_iff]; simp; omega), blwT⟩
  · rw [vrB_neg n (by omega)]
    have hx : decide (d > 0) = false := by simp; omega
    go_enter Tryz.func130, Tryz.ntmps130
    go_wp2
    go_quiet (fail)
    go_wp2
    go_ret
    exact ⟨rfl, blwT⟩
/- When a device is valid: plain. -/
def pinsOf (kind : Int) : Nat := if kind = 2 then 2 else 3
def dvB (nets : Int) (x : Dv) : Bool :=
  inB x.kind 0 2 && (decide (x.pins.length = pinsOf x.kind) && (inB x.wd 1 1000000 && (inB x.len 1 1000000 && (x.pins.all (fun p => inB p 0 (nets - 1)) && (decide (x.kind ≠ 2) || decide (Int.gcd x.wd x.len = 1))))))
section
variable {nets : Int} {x : Dv}
theorem dvB_kind (h : inB x.kind 0 2 = false) : dvB nets x = false := by simp [dvB, h]
theorem dvB_len (h : x.pins.length ≠ pinsOf x.kind) : dvB nets x = false := by simp [dvB, h]
theorem dvB_wd (h : inB x.wd 1 1000000 = false) : dvB nets x = false := by simp [dvB, h]
theorem dvB_lg (h : inB x.len 1 1000000 = false) : dvB nets x = false := by simp [dvB, h]
theorem dvB_pin {k : Nat} {p : Int} (hk : x.pins[k]? = some p) (h : inB p 0 (nets - 1) = false) : dvB nets x = false := by
  have : x.pins.all (fun p => inB p 0 (nets - 1)) = false := by
    rw [List.all_eq_false]; exact ⟨p, List.mem_of_getElem? hk, by simp [h]⟩
  simp [dvB, this]
theorem dvB_end (h1 : inB x.kind 0 2 = true) (h2 : x.pins.length = pinsOf x.kind) (h3 : inB x.wd 1 1000000 = true) (h4 : inB x.len 1 1000000 = true) (h5 : x.pins.all (fun p => inB p 0 (nets - 1)) = true) :
    dvB nets x = (decide (x.kind ≠ 2) || decide (Int.gcd x.wd x.len = 1)) := by simp [dvB, h1, h2, h3, h4, h5]
theorem dvB_all (h : dvB nets x = true) : inB x.kind 0 2 = true ∧ x.pins.length = pinsOf x.kind ∧ inB x.wd 1 1000000 = true ∧ inB x.len 1 1000000 = true ∧ (∀ p ∈ x.pins, inB p 0 (nets - 1) = true) ∧ (x.kind ≠ 2 ∨ Int.gcd x.wd x.len = 1) := by
  simpa [dvB] using h
end
/- Names: the two IsName. -/
def chB (c : UInt8) : Bool := decide ((97 ≤ (c.toNat : Int) ∧ (c.toNat : Int) ≤ 122) ∨ (48 ≤ (c.toNat : Int) ∧ (c.toNat : Int) ≤ 57))
def nameB (s : ByteArray) : Bool := s.data.toList.all chB && decide (1 ≤ s.size ∧ s.size ≤ 8)
theorem all_at (s : ByteArray) (k : Nat) (h : k < s.size) (hp : chB s[k] = false) : nameB s = false := by
  have : s.data.toList.all chB = false := by
    rw [List.all_eq_false]
    refine ⟨s[k], ?_, by simp [hp]⟩
    exact Array.mem_toList_iff.2 (Array.getElem_mem (xs := s.data) h)
  simp [nameB, this]
theorem all_of (s : ByteArray) (h : ∀ (k : Nat) (hk : k < s.size), chB s[k] = true) : nameB s = decide (1 ≤ s.size ∧ s.size ≤ 8) := by
  have : s.data.toList.all chB = true := by
    rw [List.all_eq_true]
    intro x hx
    obtain ⟨k, hk, rfl⟩ := List.mem_iff_getElem.1 hx
    exact h k (by simpa using hk)
  simp [nameB, this]
set_option maxRecDepth 100000 in
set_option maxHeartbeats 1000000 in
theorem specIsName_any (s : ByteArray) (w : World) (hs : s.size ≤ 9223372036854775807) :
    Calls Tryz.prog 83 #[.string s] w fun e w' => e = .returned (.bool (nameB s)) ∧ w = w' := by
  have HN := Lib.hid (all_at s)
  have HA := Lib.hid (all_of s)
  generalize nameB s = r at *
  go_enter Tryz.func83, Tryz.ntmps83
  go_wp2
  go_loop [3] (fun i => ∃ k : Nat, k ≤ s.size ∧ i = .int .i64 k ∧ Hid (∀ (j : Nat) (hj : j < s.size), j < k → chB s[j] = true)) (fun i => s.size - (intOf i).toNat)
  case atStart => exact ⟨0, Nat.zero_le _, rfl, Lib.hid (by intro j _ h; omega)⟩
  case round =>
    obtain ⟨k, hk, rfl, HK⟩ := hrel
    by_cases hlt : k < s.size
    · have hc0 : (0 : Int) ≤ (s[k].toNat : Int) := by omega
      by_cases hch : chB s[k] = true
      · have HE := Lib.hid hch
        simp only [chB, decide_eq_true_eq] at hch
        rcases hch with ⟨h1, h2⟩ | ⟨h1, h2⟩
        all_goals
          go_wp2
          go_round
          case rel => exact ⟨k + 1, by omega, by go_num, Lib.hid (fun j hj hjk => by
            by_cases e : j = k
            · subst e; exact HE.out
            · exact HK.out j hj (by omega))⟩
          case measure => simp [intOf]; omega
      · have hr := Lib.hid (HN.out k hlt (by simpa using hch))
        simp only [chB, decide_eq_true_eq, not_or, not_and] at hch
        have hq : ((s[k].toNat : Int) < 48) ∨ ((57 : Int) < (s[k].toNat : Int) ∧ (s[k].toNat : Int) < 97) ∨ ((122 : Int) < (s[k].toNat : Int)) := by omega
        clear hch
        rcases hq with h1 | ⟨h1, h2⟩ | h1
        all_goals
          go_wp2
          all_goals first
            | (exfalso; simp only [Bool.not_eq_false', Bool.not_eq_eq_eq_not, Bool.not_false, Bool.not_true, decide_eq_true_eq] at *; omega)
            | (go_ret; exact ⟨ret_bool hr.out.symm, rfl⟩)
    · obtain rfl : k = s.size := by omega
      have hr := Lib.hid (HA.out (fun j hj => HK.out j hj hj))
      go_wp2
      all_goals
        go_ret
        exact ⟨ret_bool (by rw [hr.out, Bool.eq_iff_iff]; simp; omega), rfl⟩
set_option maxRecDepth 100000 in
set_option maxHeartbeats 1000000 in
theorem implIsName_any (s : ByteArray) (w : World) (hs : s.size ≤ 9223372036854775807) :
    Calls Tryz.prog 88 #[.string s] w fun e w' => e = .returned (.bool (nameB s)) ∧ w = w' := by
  have HN := Lib.hid (all_at s)
  have HA := Lib.hid (all_of s)
  generalize nameB s = r at *
  go_enter Tryz.func88, Tryz.ntmps88
  go_wp2
  go_loop [3] (fun i => ∃ k : Nat, k ≤ s.size ∧ i = .int .i64 k ∧ Hid (∀ (j : Nat) (hj : j < s.size), j < k → chB s[j] = true)) (fun i => s.size - (intOf i).toNat)
  case atStart => exact ⟨0, Nat.zero_le _, rfl, Lib.hid (by intro j _ h; omega)⟩
  case round =>
    obtain ⟨k, hk, rfl, HK⟩ := hrel
    by_cases hlt : k < s.size
    · have hc0 : (0 : Int) ≤ (s[k].toNat : Int) := by omega
      by_cases hch : chB s[k] = true
      · have HE := Lib.hid hch
        simp only [chB, decide_eq_true_eq] at hch
        rcases hch with ⟨h1, h2⟩ | ⟨h1, h2⟩
        all_goals
          go_wp2
          go_round
          case rel => exact ⟨k + 1, by omega, by go_num, Lib.hid (fun j hj hjk => by
            by_cases e : j = k
            · subst e; exact HE.out
            · exact HK.out j hj (by omega))⟩
          case measure => simp [intOf]; omega
      · have hr := Lib.hid (HN.out k hlt (by simpa using hch))
        simp only [chB, decide_eq_true_eq, not_or, not_and] at hch
        have hq : ((s[k].toNat : Int) < 48) ∨ ((57 : Int) < (s[k].toNat : Int) ∧ (s[k].toNat : Int) < 97) ∨ ((122 : Int) < (s[k].toNat : Int)) := by omega
        clear hch
        rcases hq with h1 | ⟨h1, h2⟩ | h1
        all_goals
          go_wp2
          all_goals first
            | (exfalso; simp only [Bool.not_eq_false', Bool.not_eq_eq_eq_not, Bool.not_false, Bool.not_true, decide_eq_true_eq] at *; omega)
            | (go_ret; exact ⟨ret_bool hr.out.symm, rfl⟩)
    · obtain rfl : k = s.size := by omega
      have hr := Lib.hid (HA.out (fun j hj => HK.out j hj hj))
      go_wp2
      all_goals
        go_ret
        exact ⟨ret_bool (by rw [hr.out, Bool.eq_iff_iff]; simp; omega), rfl⟩
/- When a netlist is valid: plain. -/
def ltS (a b : ByteArray) : Bool := Op.bytesLess a.toList b.toList
def ptOk (nets : Int) (ps : List Pt) (i : Nat) : Bool :=
  match ps[i]? with
  | none => true
  | some x => nameB x.name && (inB x.net 0 (nets - 1) && (match i with | 0 => true | j + 1 => match ps[j]? with | some y => ltS y.name x.name | none => true))
def ptsB (nets : Int) (ps : List Pt) : Bool := (List.range ps.length).all (ptOk nets ps)
def nlB (x : Nl) : Bool := inB x.nets 0 24 && (decide (x.ds.length ≤ 24) && (decide (x.ps.length ≤ 8) && (x.ds.all (dvB x.nets) && ptsB x.nets x.ps)))
section
variable {nets : Int} {ps : List Pt} {x y : Pt} {i : Nat}
theorem ptOk_name (h : ps[i]? = some x) (hn : nameB x.name = false) : ptOk nets ps i = false := by unfold ptOk; rw [h]; simp [hn]
theorem ptOk_net (h : ps[i]? = some x) (hn : inB x.net 0 (nets - 1) = false) : ptOk nets ps i = false := by unfold ptOk; rw [h]; simp [hn]
theorem ptOk_lt (h : ps[i + 1]? = some x) (h' : ps[i]? = some y) (hn : Op.bytesLess y.name.toList x.name.toList = false) : ptOk nets ps (i + 1) = false := by unfold ptOk; rw [h]; simp [h', ltS, hn]
theorem ptOk_zero (h : ps[0]? = some x) (h1 : nameB x.name = true) (h2 : inB x.net 0 (nets - 1) = true) : ptOk nets ps 0 = true := by unfold ptOk; rw [h]; simp [h1, h2]
theorem ptOk_succ (h : ps[i + 1]? = some x) (h' : ps[i]? = some y) (h1 : nameB x.name = true) (h2 : inB x.net 0 (nets - 1) = true) (h3 : Op.bytesLess y.name.toList x.name.toList = true) : ptOk nets ps (i + 1) = true := by unfold ptOk; rw [h]; simp [h', ltS, h1, h2, h3]
variable {n : Nl}
theorem nlB_nets (h : inB n.nets 0 24 = false) : nlB n = false := by simp [nlB, h]
theorem nlB_ds (h : ¬ n.ds.length ≤ 24) : nlB n = false := by simp [nlB]; omega
theorem nlB_ps (h : ¬ n.ps.length ≤ 8) : nlB n = false := by simp [nlB]; omega
theorem nlB_any (h : (n.ds.all (dvB n.nets)) = false) : nlB n = false := by simp [nlB, h]
theorem nlB_dv {k : Nat} {d : Dv} (hk : n.ds[k]? = some d) (h : dvB n.nets d = false) : nlB n = false := by
  apply nlB_any
  rw [List.all_eq_false]; exact ⟨d, List.mem_of_getElem? hk, by simp [h]⟩
theorem nlB_pt (hi : i < n.ps.length) (h : ptOk n.nets n.ps i = false) : nlB n = false := by
  have : ptsB n.nets n.ps = false := by
    unfold ptsB; rw [List.all_eq_false]; exact ⟨i, List.mem_range.2 hi, by simp [h]⟩
  simp [nlB, this]
theorem all_dv {nets : Int} {ds : List Dv} (h : ∀ (j : Nat) d, j < ds.length → ds[j]? = some d → dvB nets d = true) : ds.all (dvB nets) = true := by
  rw [List.all_eq_true]; intro d hd
  obtain ⟨j, hj, e⟩ := List.mem_iff_getElem.1 hd
  exact h j d hj (by rw [List.getElem?_eq_getElem hj, e])
theorem nlB_pts (h1 : inB n.nets 0 24 = true) (h2 : n.ds.length ≤ 24) (h3 : n.ps.length ≤ 8) (h5 : ∀ i, i < n.ps.length → ptOk n.nets n.ps i = true) : nlB n = n.ds.all (dvB n.nets) := by
  have : ptsB n.nets n.ps = true := by unfold ptsB; rw [List.all_eq_true]; intro i hi; exact h5 i (List.mem_range.1 hi)
  simp [nlB, h1, h2, h3, this]
end
/- Degrees of nets: plain. -/
def degN : List Dv → Int → Nat
  | [], _ => 0
  | d :: ds, net => d.pins.count net + degN ds net
theorem take_snoc_of {α : Type} (xs : List α) (k : Nat) (x : α) (h : xs[k]? = some x) : xs.take (k + 1) = xs.take k ++ [x] := by
  rw [List.take_add_one, h]; rfl
theorem count_take (zs : List Int) (j : Nat) (z : Int) (h : zs[j]? = some z) (net : Int) : (zs.take (j + 1)).count net = (zs.take j).count net + if z = net then 1 else 0 := by
  rw [take_snoc_of zs j z h, List.count_append, List.count_singleton]; simp
theorem nlB_facts {x : Nl} (h : nlB x = true) : (0 ≤ x.nets ∧ x.nets ≤ 24) ∧ x.ds.length ≤ 24 ∧ x.ps.length ≤ 8 ∧ (∀ d ∈ x.ds, dvB x.nets d = true) ∧ ∀ i, i < x.ps.length → ptOk x.nets x.ps i = true := by
  simp only [nlB, Bool.and_eq_true, decide_eq_true_eq, List.all_eq_true, ptsB, List.mem_range] at h
  exact ⟨inB_iff.1 h.1, h.2.1, h.2.2.1, h.2.2.2.1, h.2.2.2.2⟩
theorem dvB_pins {nets : Int} {d : Dv} (h : dvB nets d = true) : d.pins.length ≤ 3 ∧ 2 ≤ d.pins.length ∧ ∀ p ∈ d.pins, 0 ≤ p ∧ p < nets := by
  obtain ⟨h1, h2, h3, h4, h5, h6⟩ := dvB_all h
  refine ⟨by rw [h2]; unfold pinsOf; split <;> omega, by rw [h2]; unfold pinsOf; split <;> omega, fun p hp => ?_⟩
  have := inB_iff.1 (h5 p hp); omega
/- Contracts of the two functions that bring a ratio to lowest terms. -/
set_option maxHeartbeats 1000000 in
theorem l26Reduce_any (n d : Int) (w : World) (hn : -9223372036854775807 ≤ n) (hn' : n ≤ 9223372036854775807) (hd : -9223372036854775807 ≤ d) (hd' : d ≤ 9223372036854775807) (h0 : d ≠ 0) :
    Calls Tryz.prog 168 #[.int .i64 n, .int .i64 d] w fun e w' => e = .returned (.agg #[.int .i64 (redN n d), .int .i64 (redD n d)]) ∧ Below w.heap.size w w' := by
  have g1 := gcd_pos_of n d h0
  have g2 := gcd_le_of n d h0
  have q1 := tdiv_bd n (Int.gcd n d : Nat) (by omega) 9223372036854775807 hn hn'
  have q2 := tdiv_bd d (Int.gcd n d : Nat) (by omega) 9223372036854775807 hd hd'
  have e1 := Lib.hid (show Int.gcd (-n) (-d) = n.gcd d from by simp [Int.neg_gcd, Int.gcd_neg])
  have e2 := Lib.hid (show Int.gcd n (-d) = n.gcd d from by simp [Int.gcd_neg])
  have e3 := Lib.hid (show Int.gcd (-n) d = n.gcd d from by simp [Int.neg_gcd])
  have e4 := Lib.hid (show Int.gcd n d = n.gcd d from rfl)
  have e5 := Lib.hid (show Int.gcd ((-n).natAbs : Int) (-d) = n.gcd d from by simp [Int.gcd_neg, gcd_abs])
  have e6 := Lib.hid (show Int.gcd (n.natAbs : Int) d = n.gcd d from by simp [gcd_abs])
  by_cases hdn : d < 0
  all_goals
    go_enter Tryz.func168, Tryz.ntmps168
    go_wp2_with (go_at_call 125; refine (l26Gcd_as _ _ (n.gcd d) _ (by first | exact e1.out | exact e2.out | exact e3.out | exact e4.out | exact e5.out | exact e6.out) (by omega) (by omega) (by omega) (by omega)).mono ?_; rintro e w' ⟨rfl, nq, rfl⟩)
  all_goals
    go_region
    go_wp2
    exact bodyPost_ret (v := .agg #[.int .i64 (redN n d), .int .i64 (redD n d)]) (by first | simp [results, Tryz.results168, go_sem, redN_lt _ hdn, redD_lt _ hdn] | simp [results, Tryz.results168, go_sem, redN_ge _ hdn, redD_ge _ hdn]) rfl ⟨rfl, by repeat (first | exact Below.refl _ _ | apply Below.drew | apply below_drewN | refine Below.setCell ?_ (by simp) _ | refine Below.alloc ?_ (by simp) _)⟩
def OwnI (w : World) (lo : Nat) (sv : Value) (zs : List Int) : Prop :=
  (∃ a c, sv = .slice a 0 c ∧ zs = []) ∨ ∃ g cap, ∃ cs : Array Value, sv = .slice (some ⟨g, 0, none⟩) zs.length cap ∧ lo ≤ g ∧ zs.length ≤ cap ∧ cap ≤ maxLen ∧ Blk w g cs 2 ∧ ∀ (i : Nat) (x : Int), zs[i]? = some x → cs[i]? = some (Value.int .i64 x)
section
variable {w w1 : World} {lo : Nat} {sv : Value} {zs : List Int}
theorem OwnI.by (hb : Below w.heap.size w w1) (h : OwnI w lo sv zs) : OwnI w1 lo sv zs := by
  rcases h with h | ⟨g, cap, cs, h1, h2, h3, h4, h5, h6⟩
  · exact .inl h
  · exact .inr ⟨g, cap, cs, h1, h2, h3, h4, Blk.by hb h5, h6⟩
theorem OwnI.sl (h : OwnI w lo sv zs) : IntSl w sv zs := by
  rcases h with h | ⟨g, cap, cs, h1, h2, h3, h4, h5, h6⟩
  · exact .inl h
  · exact .inr ⟨g, 0, cap, h1, h3, h4, fun i x hx => by rw [Nat.zero_add, h5.cell]; exact h6 i x hx⟩
theorem OwnI.len (h : OwnI w lo sv zs) : ∃ a c, sv = .slice a zs.length c := h.sl.len
theorem OwnI.alloc (h : OwnI w lo sv zs) (o : Obj) : OwnI (w.alloc o) lo sv zs := h.by ((Below.refl _ w).alloc (Nat.le_refl _) o)
theorem OwnI.drewN (h : OwnI w lo sv zs) (n : Nat) : OwnI (w.drewN n) lo sv zs := h.by (below_of_drewN _ n)
theorem OwnI.low (h : OwnI w lo sv zs) {lo' : Nat} (hl : lo' ≤ lo) : OwnI w lo' sv zs := by
  rcases h with h | ⟨g, cap, cs, h1, h2, h3⟩
  · exact .inl h
  · exact .inr ⟨g, cap, cs, h1, Nat.le_trans hl h2, h3⟩
theorem OwnI.apart (h : OwnI w lo sv zs) (b o : Nat) (v : Value) (hb : b < lo) : OwnI (w.setCell ⟨b, o, none⟩ v) lo sv zs := by
  rcases h with h | ⟨g, cap, cs, h1, h2, h3, h4, h5, h6⟩
  · exact .inl h
  · exact .inr ⟨g, cap, cs, h1, h2, h3, h4, h5.apart b o v (by omega), h6⟩
theorem src_ints (h : IntSl w sv zs) : Src Tryz.prog 1 27 sv zs.length (zs.map (Value.int .i64)) w := by
  have h1 : ∀ u ∈ zs.map (Value.int .i64), u.oneCell' = true := by
    intro u hu
    obtain ⟨_, _, rfl⟩ := List.mem_map.1 hu
    rfl
  rcases h with ⟨a, c, rfl, rfl⟩ | ⟨b, off, cap, rfl, h2, h3, h4⟩
  · cases a with
    | none => exact Src.ofNil w Tryz.underlying27 c
    | some a => exact Src.ofSlice w Tryz.underlying27 a 0 c [] rfl (by simp) (by simp)
  · refine Src.ofSlice w Tryz.underlying27 _ _ _ _ (by simp) (fun j u hu => ?_) h1
    rw [List.getElem?_map] at hu
    obtain ⟨x, hx, rfl⟩ := Option.map_eq_some_iff.1 hu
    rw [Addr.add_lit]
    exact h4 j x hx
theorem clone_run (h : IntSl w sv zs) (hn : zs.length ≤ 1048576) (b : Nat) (ty : TypeId) (hlo : lo ≤ w.heap.size) :
    ∃ v w', (Builtin.append_ #[27, 27] ty #[.slice (some ⟨b, 0, none⟩) 0 0, sv]).run Tryz.prog w = .ok v w' ∧ OwnI w' lo v zs ∧ Below w.heap.size w w' := by
  obtain ⟨i0, hi, hz0, hz1, hz2⟩ := info_parts infoI
  have hS := src_ints h
  by_cases h0 : zs = []
  · subst h0
    have hr := run_append_room_src (P := Tryz.prog) w 27 27 ty 2 i0 Tryz.underlying27 hi b 0 0 0 sv 0 [] (by rw [hz1]; exact hS) (by omega) (by simp) (by simp)
    refine ⟨_, _, hr, .inl ⟨_, _, rfl, rfl⟩, ?_⟩
    exact Below.refl _ _
  · have hl : 0 < zs.length := List.length_pos_iff.2 h0
    have hr := run_append_grow_src (P := Tryz.prog) w 27 27 ty 2 i0 _ Tryz.underlying27 hi hz0 (some ⟨b, 0, none⟩) 0 0 [] (by rw [hz1]; exact run_firstCells_some w.drew 1 0 _ 0 0 [] rfl (by simp)) sv zs.length (zs.map (Value.int .i64)) (by rw [hz1]; exact hS) (by omega) (by omega)
      (by rw [hz2]; simp only [Builtin.nextslicecap, Nat.mul_zero, Nat.zero_add]; rw [if_pos (by omega)]; omega)
    refine ⟨_, _, hr, .inr ⟨w.heap.size, grownCap w (0 + zs.length) 0 2, _, by rw [Nat.zero_add], hlo, by have := grownCap_ge w (0 + zs.length) 0 2; omega, grownCap_le_maxLen _ _ _ _ (by unfold maxLen; omega), Blk.new _ rfl, ?_⟩, ((Below.refl _ _).drew).alloc (Nat.le_refl _) _⟩
    intro i x hx
    have hi := (List.getElem?_eq_some_iff.1 hx).1
    rw [Array.getElem?_append_left (by simpa using hi)]
    simp [hx]
end
theorem step_clone {ops : Array Oper} {o : Oper} {a : Act} {w : World} {K : Act → World → Prop} {Q : Exit → Act → World → Prop} {E : Prop} (hgd : o.guard = none) (s x : Operand)
    (ho : o.op = .call { callee := .builtin .append, args := #[s, x], argTypes := #[27, 27] })
    (b : Nat) (hs : a.eval s = .slice (some ⟨b, 0, none⟩) 0 0) (sv : Value) (zs : List Int) (hx : a.eval x = sv) (h : IntSl w sv zs) (hn : zs.length ≤ 1048576) (lo : Nat) (hlo : lo ≤ w.heap.size)
    (hK : ∀ v w', OwnI w' lo v zs → Below w.heap.size w w' → K (a.put o.dst v) w') :
    if Region.wanted o (yielded ops a.tmps) = true then Oper.wp Tryz.prog o a w K Q else E := by
  have hw : Region.wanted o (yielded ops a.tmps) = true := by simp [Region.wanted, hgd]
  rw [if_pos hw]
  obtain ⟨v, w', hr, h2, h3⟩ := clone_run h hn b o.type hlo
  unfold Oper.wp execOp
  simp only [ho, resolve, invoke, builtin, Sem.run_bind, Sem.run_pure, Result.andThen_ok, List.map_toArray, List.map_cons, List.map_nil, hs, hx, hr]
  exact hK v w' h2 h3
theorem list_clone {ops : Array Oper} {rest : List Oper} {o : Oper} {a : Act} {w : World} {Q : Exit → Act → World → Prop} (hgd : o.guard = none) (s x : Operand)
    (ho : o.op = .call { callee := .builtin .append, args := #[s, x], argTypes := #[27, 27] })
    (b : Nat) (hs : a.eval s = .slice (some ⟨b, 0, none⟩) 0 0) (sv : Value) (zs : List Int) (hx : a.eval x = sv) (h : IntSl w sv zs) (hn : zs.length ≤ 1048576) (lo : Nat) (hlo : lo ≤ w.heap.size)
    (hK : ∀ v w', OwnI w' lo v zs → Below w.heap.size w w' → wpList Tryz.prog ops Q rest (a.put o.dst v) w') : wpList Tryz.prog ops Q (o :: rest) a w :=
  wpList_plain hgd fun _ hK' => by
    obtain ⟨v, w', hr, h2, h3⟩ := clone_run h hn b o.type hlo
    unfold Oper.wp execOp
    simp only [ho, resolve, invoke, builtin, Sem.run_bind, Sem.run_pure, Result.andThen_ok, List.map_toArray, List.map_cons, List.map_nil, hs, hx, hr]
    exact hK' _ _ (hK v w' h2 h3)
/- Copies of devices. -/
set_option maxRecDepth 100000 in
set_option maxHeartbeats 1000000 in
theorem own_any (kind wd len : Int) (sv : Value) (zs : List Int) (w : World) (h : IntSl w sv zs) (hn : zs.length ≤ 1048576) :
    Calls Tryz.prog 109 #[.agg #[.int .i64 kind, sv, .int .i64 wd, .int .i64 len]] w fun e w' => ∃ v, e = .returned (.agg #[.int .i64 kind, v, .int .i64 wd, .int .i64 len]) ∧ OwnI w' w.heap.size v zs ∧ Below w.heap.size w w' := by
  obtain ⟨a, c, rfl⟩ := h.len
  go_enter Tryz.func109, Tryz.ntmps109
  go_wp2_with fail
  go_region_held_law ((fun w' => (Blk w' (w.heap.size) #[.int .i64 kind, .slice a zs.length c, .int .i64 wd, .int .i64 len] 62 ∧ ∀ o, w'.cell? ⟨w.heap.size, o, none⟩ = (#[.int .i64 kind, .slice a zs.length c, .int .i64 wd, .int .i64 len] : Array Value)[o]?) ∧ Below w.heap.size w w')) (((try (obtain ⟨⟨hS0, _⟩, hSB⟩ := hHeld)); refine ⟨Blk.both ?_, ?_⟩ <;> first | ((repeat (first | (with_reducible assumption) | (with_reducible refine Blk.drewN ?_ _) | (with_reducible refine Blk.drew ?_) | ((with_reducible refine Blk.new _ ?_); focus (first | omega | (simp; done) | (simp; omega))) | (with_reducible refine Blk.past ?_ _) | ((with_reducible refine Blk.apart ?_ _ _ _ ?_); rotate_left; focus (first | omega | (simp; done) | (simp; omega))) | (with_reducible refine Blk.by (by assumption) ?_))); done) | ((repeat (first | (with_reducible exact Below.refl _ _) | (with_reducible refine below_drewN ?_ _) | (with_reducible refine Below.drew ?_) | (with_reducible refine below_al ?_ _) | (with_reducible refine below_on (by assumption) ?_) | ((with_reducible refine Below.setCell ?_ ?_ _); rotate_left; focus (first | omega | (simp; done) | (simp; omega))) | (with_reducible assumption))); done)))
    ((refine step_clone (by rfl) _ _ (by rfl) _ (by rfl) _ zs (by rfl) (h.by blwT) hn (w.heap.size + 2) (by simp; try omega) ?_; intro v w3 hO hb3; obtain ⟨a1, c1, rfl⟩ := hO.len; have k2 : Blk w3 (w.heap.size + 1) #[.int .i64 0, .slice none 0 0, .int .i64 0, .int .i64 0] 62 := blkT; have c2 := k2.cell; have f2 := k2.free; have l2 := k2.lt))
  go_wp2
  refine bodyPost_ret (v := .agg #[.int .i64 kind, .slice a1 zs.length c1, .int .i64 wd, .int .i64 len]) (by simp [results, Tryz.results109, go_sem, *]) rfl ⟨_, rfl, ?_, blwT⟩
  refine OwnI.low ?_ (show w.heap.size ≤ w.heap.size + 2 by omega)
  repeat (first | (with_reducible exact hO) | ((with_reducible refine OwnI.apart ?_ _ _ _ ?_); rotate_left; focus omega))
set_option maxRecDepth 100000 in
set_option maxHeartbeats 1000000 in
theorem clone_any (sv : Value) (zs : List Int) (w : World) (h : IntSl w sv zs) (hn : zs.length ≤ 1048576) :
    Calls Tryz.prog 44 #[sv] w fun e w' => ∃ v, e = .returned v ∧ OwnI w' w.heap.size v zs ∧ Below w.heap.size w w' := by
  obtain ⟨a, c, rfl⟩ := h.len
  have q22 : ∀ (w : World) (a : Option Addr) (n c n' c' : Nat), (binOp .eql 27 (.slice a n c) (.slice none n' c')).run Tryz.prog w = .ok (.bool a.isNone) w := fun w a n c n' c' => Lib.run_eql_slice_nil w _ _ a n c n' c' Tryz.underlying27
  cases a with
  | none =>
    have hz : zs = [] := by
      rcases h with ⟨_, _, _, h2⟩ | ⟨b, off, cap, h1, _⟩
      · exact h2
      · simp at h1
    subst hz
    go_enter Tryz.func44, Tryz.ntmps44
    go_wp2
    refine bodyPost_ret (v := .slice none 0 0) (by simp [results, Tryz.results44, go_sem, *]) rfl ⟨_, rfl, .inl ⟨_, _, rfl, rfl⟩, blwT⟩
  | some ad =>
    go_enter Tryz.func44, Tryz.ntmps44
    go_wp2_with ((refine list_clone (by rfl) _ _ (by rfl) _ (by rfl) _ zs (by rfl) (h.by blwT) hn w.heap.size (by simp; try omega) ?_; intro v w3 hO hb3; obtain ⟨a1, c1, rfl⟩ := hO.len))
    refine bodyPost_ret (v := .slice a1 zs.length c1) (by simp [results, Tryz.results44, go_sem, *]) rfl ⟨_, rfl, hO, blwT⟩
set_option maxRecDepth 100000 in
set_option maxHeartbeats 1000000 in
theorem copyDevice_any (kind wd len : Int) (sv : Value) (zs : List Int) (w : World) (h : IntSl w sv zs) (hn : zs.length ≤ 1048576) :
    Calls Tryz.prog 115 #[.agg #[.int .i64 kind, sv, .int .i64 wd, .int .i64 len]] w fun e w' => ∃ v, e = .returned (.agg #[.int .i64 kind, v, .int .i64 wd, .int .i64 len]) ∧ OwnI w' w.heap.size v zs ∧ Below w.heap.size w w' := by
  have HC := Lib.hid (fun w h => clone_any sv zs w h hn)
  have h1 := h.by (((Below.refl _ w).alloc (Nat.le_refl _) (.cells #[.int .i64 kind, sv, .int .i64 wd, .int .i64 len] 62)).alloc (by simp) (.cells #[.int .i64 0, .slice none 0 0, .int .i64 0, .int .i64 0] 62))
  obtain ⟨a, c, rfl⟩ := h.len
  clear h
  go_enter Tryz.func115, Tryz.ntmps115
  go_wp2_with fail
  refine (HC.out _ h1).mono ?_
  rintro e w1 ⟨v, rfl, hO, hb1⟩
  clear h1
  have k0 : Blk w1 w.heap.size #[.int .i64 kind, .slice a zs.length c, .int .i64 wd, .int .i64 len] 62 := blkT
  have k1 : Blk w1 (w.heap.size + 1) #[.int .i64 0, .slice none 0 0, .int .i64 0, .int .i64 0] 62 := blkT
  have c0 := k0.cell
  have f0 := k0.free
  have l0 := k0.lt
  have c1 := k1.cell
  have f1 := k1.free
  have l1 := k1.lt
  obtain ⟨a1, c1, rfl⟩ := hO.len
  simp at hO
  go_wp2
  refine bodyPost_ret (v := .agg #[.int .i64 kind, .slice a1 zs.length c1, .int .i64 wd, .int .i64 len]) (by simp [results, Tryz.results115, go_sem, *]) rfl ⟨_, rfl, ?_, blwT⟩
  refine OwnI.low ?_ (show w.heap.size ≤ w.heap.size + 2 by omega)
  repeat (first | (with_reducible exact hO) | ((with_reducible refine OwnI.apart ?_ _ _ _ ?_); rotate_left; focus omega))
/- The shape of a device. -/
def pinc (kind : Int) : Int := if kind = 0 then 3 else if kind = 1 then 3 else if kind = 2 then 2 else 0
theorem pinCount_any (kind : Int) (w : World) : Calls Tryz.prog 116 #[.int .i64 kind] w fun e w' => e = .returned (.int .i64 (pinc kind)) ∧ w = w' := by
  obtain ⟨r, hr⟩ : ∃ r, pinc kind = r := ⟨_, rfl⟩
  rw [hr]
  have HR := Lib.hid hr
  clear hr
  by_cases h0 : kind = 0
  · subst h0
    go_enter Tryz.func116, Tryz.ntmps116
    go_wp2
    go_ret
    exact ⟨ret_i64 (by rw [← HR.out]; rfl), rfl⟩
  by_cases h1 : kind = 1
  · subst h1
    go_enter Tryz.func116, Tryz.ntmps116
    go_wp2
    go_ret
    exact ⟨ret_i64 (by rw [← HR.out]; rfl), rfl⟩
  by_cases h2 : kind = 2
  · subst h2
    go_enter Tryz.func116, Tryz.ntmps116
    go_wp2
    go_ret
    exact ⟨ret_i64 (by rw [← HR.out]; rfl), rfl⟩
  go_enter Tryz.func116, Tryz.ntmps116
  go_wp2
  go_ret
  exact ⟨ret_i64 (by rw [← HR.out, pinc, if_neg h0, if_neg h1, if_neg h2]), rfl⟩
/- The reference's NormalizeDevice. -/
def lastTwo : List Int → List Int
  | [p, q] => [min p q, max p q]
  | [g, p, q] => [g, min p q, max p q]
  | zs => zs
def normz (kind : Int) (zs : List Int) : List Int := if 0 < pinc kind ∧ (zs.length : Int) = pinc kind then lastTwo zs else zs
/- The reference's NormalizeDevice: the last two in order. -/
set_option maxRecDepth 100000 in
set_option maxHeartbeats 1000000 in
theorem indexFuncI_any (g : Nat) (lb : Array Value) (eg : ∀ args w, (callFunc g args).run Tryz.prog w = .ok (.enter g args) w) (p : Int → Bool) (s0 : Value) (xs : List Int) (w : World) (h : IntSl w s0 xs)
    (hp : ∀ (W : World) (x : Int), Below w.heap.size w W → x ∈ xs → Calls Tryz.prog g (#[.int .i64 x] ++ lb) W fun e w' => e = .returned (.bool (p x)) ∧ Below W.heap.size W w') :
    Calls Tryz.prog 142 #[s0, .func (.func g) #[] lb] w fun e w' => e = .returned (.int .i64 (fidx p xs)) ∧ Below w.heap.size w w' := by
  have HH := Lib.hid (fun k x => @fidx_hit Int p xs k x)
  have HM := Lib.hid (@fidx_miss Int p xs)
  have HP := Lib.hid hp
  clear hp
  rcases h with ⟨a, c, rfl, rfl⟩ | ⟨b, off, cap, rfl, h2, h3, h4⟩
  · have hr := Lib.hid (HM.out (by simp))
    generalize fidx p [] = r at *
    go_enter Tryz.func142, Tryz.ntmps142
    go_wp2
    go_loopw [8] (fun i wr => i = .int .i64 0 ∧ wr = w) (fun _ _ => 0)
    case atStart => exact ⟨rfl, rfl⟩
    case round =>
      obtain ⟨rfl, rfl⟩ := hrel
      go_wp2
      go_ret
      exact ⟨ret_i64 hr.out.symm, Below.refl _ _⟩
  · generalize fidx p xs = r at *
    unfold maxLen at h3
    go_enter Tryz.func142, Tryz.ntmps142
    go_wp2
    go_loopw [5, 8] (fun _ i wr => ∃ k : Nat, k ≤ xs.length ∧ i = .int .i64 k ∧ Hid (∀ j y, j < k → xs[j]? = some y → p y = false) ∧ Below w.heap.size w wr) (fun _ i _ => xs.length - (intOf i).toNat)
    case atStart => exact ⟨0, Nat.zero_le _, rfl, Lib.hid (by intro j y hj; omega), Below.refl _ _⟩
    case round =>
      obtain ⟨k, hk, rfl, HI, hb⟩ := hrel
      by_cases hlt : k < xs.length
      · obtain ⟨x, hx⟩ : ∃ x, xs[k]? = some x := ⟨xs[k], List.getElem?_eq_getElem hlt⟩
        have hmem : x ∈ xs := List.mem_of_getElem? hx
        have c1 := cell_by' hb (h4 k x hx)
        have hcall := HP.out wr x hb hmem
        have HX := Lib.hid hx
        have i1 : (0 : Int) ≤ (k : Int) := by omega
        have i2 : (k : Int) < (xs.length : Int) := by omega
        skip
        clear h4 hx
        cases hq : p x with
        | true =>
          rw [hq] at hcall
          have HQ := Lib.hid hq
          have HC := Lib.hid hcall
          clear hq hcall
          go_wp2_with (go_at_fn g; refine HC.out.mono ?_; rintro e w1 ⟨rfl, hb1⟩)
          go_ret
          exact ⟨ret_i64 (HH.out k x HX.out HQ.out HI.out).symm, below_on hb1 hb⟩
        | false =>
          rw [hq] at hcall
          have HQ := Lib.hid hq
          have HC := Lib.hid hcall
          clear hq hcall
          go_wp2_with (go_at_fn g; refine HC.out.mono ?_; rintro e w1 ⟨rfl, hb1⟩)
          exact ⟨⟨k + 1, by omega, by go_num, Lib.hid (fun j y hj hy => by
            by_cases e : j = k
            · subst e; obtain rfl : y = x := Option.some.inj (hy.symm.trans HX.out); exact HQ.out
            · exact HI.out j y (by omega) hy), below_on hb1 hb⟩, by simp [intOf]; omega⟩
      · obtain rfl : k = xs.length := by omega
        have hr := Lib.hid (HM.out (fun j y hy => HI.out j y (List.getElem?_eq_some_iff.1 hy).1 hy))
        go_wp2
        go_ret
        exact ⟨ret_i64 hr.out.symm, hb⟩
set_option maxRecDepth 100000 in
set_option maxHeartbeats 1000000 in
theorem containsFuncI_any (g : Nat) (lb : Array Value) (eg : ∀ args w, (callFunc g args).run Tryz.prog w = .ok (.enter g args) w) (p : Int → Bool) (s0 : Value) (xs : List Int) (w : World) (h : IntSl w s0 xs)
    (hp : ∀ (W : World) (x : Int), Below w.heap.size w W → x ∈ xs → Calls Tryz.prog g (#[.int .i64 x] ++ lb) W fun e w' => e = .returned (.bool (p x)) ∧ Below W.heap.size W w') :
    Calls Tryz.prog 128 #[s0, .func (.func g) #[] lb] w fun e w' => e = .returned (.bool (xs.any p)) ∧ Below w.heap.size w w' := by
  have HI := Lib.hid (fun w h hp => indexFuncI_any g lb eg p s0 xs w h hp)
  have HA := Lib.hid (@fidx_any Int p xs)
  have HP := Lib.hid hp
  have HS := Lib.hid h
  obtain ⟨a, c, rfl⟩ := h.len
  generalize xs.any p = r at *
  generalize fidx p xs = q at *
  clear hp h
  go_enter Tryz.func128, Tryz.ntmps128
  go_wp2_with fail
  refine (HI.out _ HS.out HP.out).mono ?_
  rintro e w1 ⟨rfl, hb1⟩
  go_wp2
  go_ret
  exact ⟨ret_bool HA.out, hb1⟩
/- slices.IndexFunc and slices.ContainsFunc over a closure: at Dv. -/
set_option maxRecDepth 100000 in
set_option maxHeartbeats 1000000 in
theorem indexFuncD_any (g : Nat) (lb : Array Value) (eg : ∀ args w, (callFunc g args).run Tryz.prog w = .ok (.enter g args) w) (p : Dv → Bool) (s0 : Value) (xs : List Dv) (w : World) (h : DvSl w s0 xs)
    (hp : ∀ (W : World) (x : Dv) (sv : Value), Below w.heap.size w W → x ∈ xs → IntSl W sv x.pins → Calls Tryz.prog g (#[.agg #[.int .i64 x.kind, sv, .int .i64 x.wd, .int .i64 x.len]] ++ lb) W fun e w' => e = .returned (.bool (p x)) ∧ Below W.heap.size W w') :
    Calls Tryz.prog 127 #[s0, .func (.func g) #[] lb] w fun e w' => e = .returned (.int .i64 (fidx p xs)) ∧ Below w.heap.size w w' := by
  have HH := Lib.hid (fun k x => @fidx_hit Dv p xs k x)
  have HM := Lib.hid (@fidx_miss Dv p xs)
  have HP := Lib.hid hp
  clear hp
  rcases h with ⟨a, c, rfl, rfl⟩ | ⟨b, off, cap, rfl, h2, h3, h4⟩
  · have hr := Lib.hid (HM.out (by simp))
    generalize fidx p [] = r at *
    go_enter Tryz.func127, Tryz.ntmps127
    go_wp2
    go_loopw [8] (fun i wr => i = .int .i64 0 ∧ wr = w) (fun _ _ => 0)
    case atStart => exact ⟨rfl, rfl⟩
    case round =>
      obtain ⟨rfl, rfl⟩ := hrel
      go_wp2
      go_ret
      exact ⟨ret_i64 hr.out.symm, Below.refl _ _⟩
  · generalize fidx p xs = r at *
    unfold maxLen at h3
    go_enter Tryz.func127, Tryz.ntmps127
    go_wp2
    go_loopw [5, 8] (fun _ i wr => ∃ k : Nat, k ≤ xs.length ∧ i = .int .i64 k ∧ Hid (∀ j y, j < k → xs[j]? = some y → p y = false) ∧ Below w.heap.size w wr) (fun _ i _ => xs.length - (intOf i).toNat)
    case atStart => exact ⟨0, Nat.zero_le _, rfl, Lib.hid (by intro j y hj; omega), Below.refl _ _⟩
    case round =>
      obtain ⟨k, hk, rfl, HI, hb⟩ := hrel
      by_cases hlt : k < xs.length
      · obtain ⟨x, hx⟩ : ∃ x, xs[k]? = some x := ⟨xs[k], List.getElem?_eq_getElem hlt⟩
        have hmem : x ∈ xs := List.mem_of_getElem? hx
        obtain ⟨sv, c1, c2, c3, c4, hS⟩ := (h4 k x hx).by hb
        have hcall := HP.out wr x sv hb hmem hS
        have HX := Lib.hid hx
        have i1 : (0 : Int) ≤ (k : Int) := by omega
        have i2 : (k : Int) < (xs.length : Int) := by omega
        obtain ⟨a1, c1', rfl⟩ := hS.len
        clear h4 hx
        cases hq : p x with
        | true =>
          rw [hq] at hcall
          have HQ := Lib.hid hq
          have HC := Lib.hid hcall
          clear hq hcall
          go_wp2_with (go_at_fn g; refine HC.out.mono ?_; rintro e w1 ⟨rfl, hb1⟩)
          go_ret
          exact ⟨ret_i64 (HH.out k x HX.out HQ.out HI.out).symm, below_on hb1 hb⟩
        | false =>
          rw [hq] at hcall
          have HQ := Lib.hid hq
          have HC := Lib.hid hcall
          clear hq hcall
          go_wp2_with (go_at_fn g; refine HC.out.mono ?_; rintro e w1 ⟨rfl, hb1⟩)
          exact ⟨⟨k + 1, by omega, by go_num, Lib.hid (fun j y hj hy => by
            by_cases e : j = k
            · subst e; obtain rfl : y = x := Option.some.inj (hy.symm.trans HX.out); exact HQ.out
            · exact HI.out j y (by omega) hy), below_on hb1 hb⟩, by simp [intOf]; omega⟩
      · obtain rfl : k = xs.length := by omega
        have hr := Lib.hid (HM.out (fun j y hy => HI.out j y (List.getElem?_eq_some_iff.1 hy).1 hy))
        go_wp2
        go_ret
        exact ⟨ret_i64 hr.out.symm, hb⟩
set_option maxRecDepth 100000 in
set_option maxHeartbeats 1000000 in
theorem containsFuncD_any (g : Nat) (lb : Array Value) (eg : ∀ args w, (callFunc g args).run Tryz.prog w = .ok (.enter g args) w) (p : Dv → Bool) (s0 : Value) (xs : List Dv) (w : World) (h : DvSl w s0 xs)
    (hp : ∀ (W : World) (x : Dv) (sv : Value), Below w.heap.size w W → x ∈ xs → IntSl W sv x.pins → Calls Tryz.prog g (#[.agg #[.int .i64 x.kind, sv, .int .i64 x.wd, .int .i64 x.len]] ++ lb) W fun e w' => e = .returned (.bool (p x)) ∧ Below W.heap.size W w') :
    Calls Tryz.prog 89 #[s0, .func (.func g) #[] lb] w fun e w' => e = .returned (.bool (xs.any p)) ∧ Below w.heap.size w w' := by
  have HI := Lib.hid (fun w h hp => indexFuncD_any g lb eg p s0 xs w h hp)
  have HA := Lib.hid (@fidx_any Dv p xs)
  have HP := Lib.hid hp
  have HS := Lib.hid h
  obtain ⟨a, c, rfl⟩ := h.sized
  generalize xs.any p = r at *
  generalize fidx p xs = q at *
  clear hp h
  go_enter Tryz.func89, Tryz.ntmps89
  go_wp2_with fail
  refine (HI.out _ HS.out HP.out).mono ?_
  rintro e w1 ⟨rfl, hb1⟩
  go_wp2
  go_ret
  exact ⟨ret_bool HA.out, hb1⟩
/- slices.IndexFunc and slices.ContainsFunc over a closure: at Pt. -/
set_option maxRecDepth 100000 in
set_option maxHeartbeats 2000000 in
theorem l27Device_any (x : Dv) (sv : Value) (nets : Int) (w : World) (h : IntSl w sv x.pins) (hn : 0 ≤ nets) (hn' : nets ≤ 24) :
    Calls Tryz.prog 82 #[.agg #[.int .i64 x.kind, sv, .int .i64 x.wd, .int .i64 x.len], .int .i64 nets] w fun e w' => e = .returned (.bool (dvB nets x)) ∧ Below w.heap.size w w' := by
  have HK := Lib.hid (@dvB_kind nets x)
  have HL := Lib.hid (@dvB_len nets x)
  have HW := Lib.hid (@dvB_wd nets x)
  have HG := Lib.hid (@dvB_lg nets x)
  have HP := Lib.hid (fun k p => @dvB_pin nets x k p)
  have HE := Lib.hid (@dvB_end nets x)
  obtain ⟨kind, pins, wd, len⟩ := x
  dsimp only at h HK HL HW HG HP HE ⊢
  generalize dvB nets ⟨kind, pins, wd, len⟩ = r at *
  have hle := h.le
  rcases Bool.eq_false_or_eq_true (inB kind 0 2) with hk | hk
  · have hk' := inB_iff.1 hk
    have HK1 := Lib.hid hk
    by_cases hl : pins.length = pinsOf kind
    · have HL1 := Lib.hid hl
      rcases Bool.eq_false_or_eq_true (inB wd 1 1000000) with hw | hw
      · have hw' := inB_iff.1 hw
        have HW1 := Lib.hid hw
        rcases Bool.eq_false_or_eq_true (inB len 1 1000000) with hg | hg
        · have hg' := inB_iff.1 hg
          have HG1 := Lib.hid hg
          have hpos : 0 < pins.length := by rw [hl]; unfold pinsOf; split <;> omega
          rcases h with ⟨_, _, _, e⟩ | ⟨b, off, cap, rfl, h2, h3, h4⟩
          · rw [e] at hpos; simp at hpos
          have h4' : ∀ (k : Nat), k < pins.length → ∃ p, pins[k]? = some p ∧ w.cell? ⟨b, off + k, none⟩ = some (.int .i64 p) := fun k hk => ⟨pins[k], List.getElem?_eq_getElem hk, h4 k _ (List.getElem?_eq_getElem hk)⟩
          have H4 := Lib.hid h4'
          have hbl : b < w.heap.size := by
            obtain ⟨p, _, hc⟩ := h4' 0 hpos
            rcases Nat.lt_or_ge b w.heap.size with h' | h'
            · exact h'
            · simp [World.cell?, Array.getElem?_eq_none h'] at hc
          unfold maxLen at h3
          rcases (by omega : kind ≠ 2 ∨ kind = 2) with hk2 | hk2
          · have hz : (kind == 2) = false := by simpa using hk2
            have hz' : (kind != 2) = true := by simpa using hk2
            have hl' : (pins.length : Int) = 3 := by rw [hl]; simp [pinsOf, hk2]
            have hl3 : ((pins.length : Int) != 3) = false := by simp [hl']
            have hlt3 : pins.length ≤ 3 := by omega
            have HK2 := Lib.hid hk2
            clear hl hl' h4 h4' hk2
            go_enter Tryz.func82, Tryz.ntmps82
            go_wp2_with (go_at_call 81; refine (l16In_any _ _ _ _).mono ?_; rintro e w' ⟨rfl, rfl⟩)
            go_loop [6] (fun i => ∃ k : Nat, k ≤ pins.length ∧ i = .int .i64 k ∧ Hid (∀ j p, j < k → pins[j]? = some p → inB p 0 (nets - 1) = true)) (fun i => pins.length - (intOf i).toNat)
            case atStart => exact ⟨0, Nat.zero_le _, rfl, Lib.hid (by intro j p h; omega)⟩
            case round =>
              obtain ⟨k, hk, rfl, HI⟩ := hrel
              by_cases hlt : k < pins.length
              · obtain ⟨p, hp, hc⟩ := H4.out k hlt
                have HPP := Lib.hid hp
                have i1 : (0 : Int) ≤ (k : Int) := by omega
                have i2 : (k : Int) < (pins.length : Int) := by omega
                clear hp
                rcases Bool.eq_false_or_eq_true (inB p 0 (nets - 1)) with hin | hin
                · have HIN := Lib.hid hin
                  go_wp2_with (go_at_call 81; refine (l16In_any _ _ _ _).mono ?_; rintro e w' ⟨rfl, rfl⟩)
                  go_round
                  case rel => exact ⟨k + 1, by omega, by go_num, Lib.hid (fun j q hj hq => by
                    by_cases e : j = k
                    · subst e; obtain rfl : q = p := Option.some.inj (hq.symm.trans HPP.out); exact HIN.out
                    · exact HI.out j q (by omega) hq)⟩
                  case measure => simp [intOf]; omega
                · have hr := Lib.hid (HP.out k p HPP.out hin)
                  go_wp2_with (go_at_call 81; refine (l16In_any _ _ _ _).mono ?_; rintro e w' ⟨rfl, rfl⟩)
                  go_ret
                  exact ⟨ret_bool hr.out.symm, blwT⟩
              · obtain rfl : k = pins.length := by omega
                have hall : pins.all (fun p => inB p 0 (nets - 1)) = true := by
                  rw [List.all_eq_true]; intro p hp
                  obtain ⟨j, hj, e⟩ := List.mem_iff_getElem.1 hp
                  exact HI.out j p hj (by rw [List.getElem?_eq_getElem hj, e])
                have hr := HE.out HK1.out HL1.out HW1.out HG1.out hall
                clear hall
                have hr' := Lib.hid hr
                clear hr
                go_wp2
                go_ret
                exact ⟨ret_bool (by rw [hr'.out]; simp [HK2.out]), blwT⟩
          · subst hk2
            have hl' : (pins.length : Int) = 2 := by rw [hl]; simp [pinsOf]
            have hl3 : ((pins.length : Int) != 2) = false := by simp [hl']
            have hlt3 : pins.length ≤ 3 := by omega
            clear hl hl' h4 h4'
            go_enter Tryz.func82, Tryz.ntmps82
            go_wp2_with (go_at_call 81; refine (l16In_any _ _ _ _).mono ?_; rintro e w' ⟨rfl, rfl⟩)
            go_loop [6] (fun i => ∃ k : Nat, k ≤ pins.length ∧ i = .int .i64 k ∧ Hid (∀ j p, j < k → pins[j]? = some p → inB p 0 (nets - 1) = true)) (fun i => pins.length - (intOf i).toNat)
            case atStart => exact ⟨0, Nat.zero_le _, rfl, Lib.hid (by intro j p h; omega)⟩
            case round =>
              obtain ⟨k, hk, rfl, HI⟩ := hrel
              by_cases hlt : k < pins.length
              · obtain ⟨p, hp, hc⟩ := H4.out k hlt
                have HPP := Lib.hid hp
                have i1 : (0 : Int) ≤ (k : Int) := by omega
                have i2 : (k : Int) < (pins.length : Int) := by omega
                clear hp
                rcases Bool.eq_false_or_eq_true (inB p 0 (nets - 1)) with hin | hin
                · have HIN := Lib.hid hin
                  go_wp2_with (go_at_call 81; refine (l16In_any _ _ _ _).mono ?_; rintro e w' ⟨rfl, rfl⟩)
                  go_round
                  case rel => exact ⟨k + 1, by omega, by go_num, Lib.hid (fun j q hj hq => by
                    by_cases e : j = k
                    · subst e; obtain rfl : q = p := Option.some.inj (hq.symm.trans HPP.out); exact HIN.out
                    · exact HI.out j q (by omega) hq)⟩
                  case measure => simp [intOf]; omega
                · have hr := Lib.hid (HP.out k p HPP.out hin)
                  go_wp2_with (go_at_call 81; refine (l16In_any _ _ _ _).mono ?_; rintro e w' ⟨rfl, rfl⟩)
                  go_ret
                  exact ⟨ret_bool hr.out.symm, blwT⟩
              · obtain rfl : k = pins.length := by omega
                have hall : pins.all (fun p => inB p 0 (nets - 1)) = true := by
                  rw [List.all_eq_true]; intro p hp
                  obtain ⟨j, hj, e⟩ := List.mem_iff_getElem.1 hp
                  exact HI.out j p hj (by rw [List.getElem?_eq_getElem hj, e])
                have hr := HE.out HK1.out HL1.out HW1.out HG1.out hall
                clear hall
                have hr' := Lib.hid hr
                have HGG := Lib.hid (show Int.gcd wd len = Int.gcd wd len from rfl)
                clear hr
                go_wp2_with (go_at_call 125; refine (l26Gcd_as _ _ (wd.gcd len) _ rfl (by omega) (by omega) (by omega) (by omega)).mono ?_; rintro e w' ⟨rfl, nq, rfl⟩)
                go_ret
                exact ⟨ret_bool (by rw [hr'.out, Bool.eq_iff_iff]; simp; try omega), blwT⟩
        · have hr := Lib.hid (HG.out hg)
          obtain ⟨a, c, rfl⟩ := h.len
          rcases (by omega : kind ≠ 2 ∨ kind = 2) with hk2 | hk2
          · have hz : (kind == 2) = false := by simpa using hk2
            have hl3 : ((pins.length : Int) != 3) = false := by simp [hl, pinsOf, hk2]
            clear hl hk2
            go_enter Tryz.func82, Tryz.ntmps82
            go_wp2_with (go_at_call 81; refine (l16In_any _ _ _ _).mono ?_; rintro e w' ⟨rfl, rfl⟩)
            go_ret
            exact ⟨ret_bool hr.out.symm, blwT⟩
          · subst hk2
            have hl3 : ((pins.length : Int) != 2) = false := by simp [hl, pinsOf]
            clear hl
            go_enter Tryz.func82, Tryz.ntmps82
            go_wp2_with (go_at_call 81; refine (l16In_any _ _ _ _).mono ?_; rintro e w' ⟨rfl, rfl⟩)
            go_ret
            exact ⟨ret_bool hr.out.symm, blwT⟩
      · have hr := Lib.hid (HW.out hw)
        obtain ⟨a, c, rfl⟩ := h.len
        rcases (by omega : kind ≠ 2 ∨ kind = 2) with hk2 | hk2
        · have hz : (kind == 2) = false := by simpa using hk2
          have hl3 : ((pins.length : Int) != 3) = false := by simp [hl, pinsOf, hk2]
          clear hl hk2
          go_enter Tryz.func82, Tryz.ntmps82
          go_wp2_with (go_at_call 81; refine (l16In_any _ _ _ _).mono ?_; rintro e w' ⟨rfl, rfl⟩)
          go_ret
          exact ⟨ret_bool hr.out.symm, blwT⟩
        · subst hk2
          have hl3 : ((pins.length : Int) != 2) = false := by simp [hl, pinsOf]
          clear hl
          go_enter Tryz.func82, Tryz.ntmps82
          go_wp2_with (go_at_call 81; refine (l16In_any _ _ _ _).mono ?_; rintro e w' ⟨rfl, rfl⟩)
          go_ret
          exact ⟨ret_bool hr.out.symm, blwT⟩
    · have hr := Lib.hid (HL.out hl)
      obtain ⟨a, c, rfl⟩ := h.len
      rcases (by omega : kind ≠ 2 ∨ kind = 2) with hk2 | hk2
      · have hz : (kind == 2) = false := by simpa using hk2
        have hl3 : ((pins.length : Int) != 3) = true := by simp [pinsOf, hk2] at hl; simp; omega
        clear hl hk2
        go_enter Tryz.func82, Tryz.ntmps82
        go_wp2_with (go_at_call 81; refine (l16In_any _ _ _ _).mono ?_; rintro e w' ⟨rfl, rfl⟩)
        go_ret
        exact ⟨ret_bool hr.out.symm, blwT⟩
      · subst hk2
        have hl3 : ((pins.length : Int) != 2) = true := by simp [pinsOf] at hl; simp; omega
        clear hl
        go_enter Tryz.func82, Tryz.ntmps82
        go_wp2_with (go_at_call 81; refine (l16In_any _ _ _ _).mono ?_; rintro e w' ⟨rfl, rfl⟩)
        go_ret
        exact ⟨ret_bool hr.out.symm, blwT⟩
  · have hr := Lib.hid (HK.out hk)
    have hk2 : kind ≠ 2 := by rintro rfl; simp [inB] at hk
    have hz : (kind == 2) = false := by simpa using hk2
    obtain ⟨a, c, rfl⟩ := h.len
    clear hk2
    go_enter Tryz.func82, Tryz.ntmps82
    go_wp2_with (go_at_call 81; refine (l16In_any _ _ _ _).mono ?_; rintro e w' ⟨rfl, rfl⟩)
    go_ret
    exact ⟨ret_bool hr.out.symm, blwT⟩
/- The program's validity test of a device. -/
set_option maxRecDepth 100000 in
theorem vdClosure_any (p nets : Int) (B : Nat) (W : World) (hc : W.cell? ⟨B, 0, none⟩ = some (.int .i64 nets)) (hn : 0 ≤ nets) (hn' : nets ≤ 24) :
    Calls Tryz.prog 129 #[.int .i64 p, .pointer (some ⟨B, 0, none⟩)] W fun e w' => e = .returned (.bool (!inB p 0 (nets - 1))) ∧ W = w' := by
  go_enter Tryz.func129, Tryz.ntmps129
  go_wp2_with (go_at_call 87; refine (within_any _ _ _ _).mono ?_; rintro e w' ⟨rfl, rfl⟩)
  go_ret
  exact ⟨rfl, rfl⟩
theorem pins_any (nets : Int) (pins : List Int) : (pins.any fun p => !inB p 0 (nets - 1)) = !(pins.all fun p => inB p 0 (nets - 1)) := by
  induction pins with
  | nil => rfl
  | cons x xs ih => simp [ih]
set_option maxRecDepth 100000 in
set_option maxHeartbeats 2000000 in
theorem validDevice_any (x : Dv) (sv : Value) (nets : Int) (w : World) (h : IntSl w sv x.pins) (hn : 0 ≤ nets) (hn' : nets ≤ 24) :
    Calls Tryz.prog 91 #[.agg #[.int .i64 x.kind, sv, .int .i64 x.wd, .int .i64 x.len], .int .i64 nets] w fun e w' => e = .returned (.bool (dvB nets x)) ∧ Below w.heap.size w w' := by
  have HK := Lib.hid (@dvB_kind nets x)
  have HL := Lib.hid (@dvB_len nets x)
  have HW := Lib.hid (@dvB_wd nets x)
  have HG := Lib.hid (@dvB_lg nets x)
  have HPA : (x.pins.all (fun p => inB p 0 (nets - 1))) = false → dvB nets x = false := by intro h; simp [dvB, h]
  replace HPA := Lib.hid HPA
  have HE := Lib.hid (@dvB_end nets x)
  obtain ⟨kind, pins, wd, len⟩ := x
  dsimp only at h HK HL HW HG HPA HE ⊢
  generalize dvB nets ⟨kind, pins, wd, len⟩ = r at *
  have hle := h.le
  have eg : ∀ args w, (callFunc 129 args).run Tryz.prog w = .ok (.enter 129 args) w := enters_of Tryz.func129 (by kernel_rfl) rfl
  have hcl : ∀ (B : Nat) (w0 W : World) (x : Int), w0.cell? ⟨B, 0, none⟩ = some (.int .i64 nets) → Below w0.heap.size w0 W → Calls Tryz.prog 129 (#[.int .i64 x] ++ #[.pointer (some ⟨B, 0, none⟩)]) W fun e w' => e = .returned (.bool (!inB x 0 (nets - 1))) ∧ Below W.heap.size W w' := by
    intro B w0 W x hc hb
    show Calls Tryz.prog 129 #[.int .i64 x, .pointer (some ⟨B, 0, none⟩)] W _
    refine (vdClosure_any x nets B W (cell_by' hb hc) hn hn').mono ?_
    rintro e w' ⟨rfl, rfl⟩
    exact ⟨rfl, Below.refl _ _⟩
  have hw2 := ((Below.refl _ w).alloc (Nat.le_refl _) (.cells #[.int .i64 kind, sv, .int .i64 wd, .int .i64 len] 62)).alloc (by simp) (.cells #[.int .i64 nets] 2)
  have HC := Lib.hid (containsFuncI_any 129 #[.pointer (some ⟨w.heap.size + 1, 0, none⟩)] eg (fun p => !inB p 0 (nets - 1)) sv pins _ (h.by hw2) (fun W x hb _ => hcl (w.heap.size + 1) _ W x (by simp) hb))
  rw [pins_any] at HC
  clear hcl eg hw2
  have HPC := Lib.hid (fun w => pinCount_any kind w)
  have hmf : ∀ (fn : Fn) (first cap : Array Value) (w : World), (Instr.makeFunc fn first cap).run Tryz.prog w = .ok (.func fn first cap) w := fun _ _ _ _ => rfl
  obtain ⟨a, c, rfl⟩ := h.len
  rcases Bool.eq_false_or_eq_true (inB kind 0 2) with hk | hk
  · have hk' := inB_iff.1 hk
    have HK1 := Lib.hid hk
    obtain ⟨q, hq⟩ : ∃ q : Int, pinc kind = q := ⟨_, rfl⟩
    have hq3 : q = 2 ∨ q = 3 := by unfold pinc at hq; repeat' (split at hq); all_goals omega
    have hq0 : (q == 0) = false := by rw [beq_eq_false_iff_ne]; omega
    have hqp : (pinsOf kind : Int) = q := by rw [← hq]; unfold pinc pinsOf; rcases (by omega : kind = 0 ∨ kind = 1 ∨ kind = 2) with rfl | rfl | rfl <;> rfl
    rw [hq] at HPC
    clear hq
    by_cases hl : pins.length = pinsOf kind
    · have HL1 := Lib.hid hl
      have hl' : ((pins.length : Int) != q) = false := by simp [hl, hqp]
      clear hl hqp
      rcases Bool.eq_false_or_eq_true (pins.all (fun p => inB p 0 (nets - 1))) with hp | hp
      · have HP1 := Lib.hid hp
        rw [hp] at HC
        clear hp
        rcases Bool.eq_false_or_eq_true (inB wd 1 1000000) with hw | hw
        · have hw' := inB_iff.1 hw
          have HW1 := Lib.hid hw
          rcases Bool.eq_false_or_eq_true (inB len 1 1000000) with hg | hg
          · have hg' := inB_iff.1 hg
            have HG1 := Lib.hid hg
            have HR := Lib.hid (HE.out HK1.out HL1.out HW1.out HG1.out HP1.out)
            have HVR := Lib.hid (show vrB wd len = decide (Int.gcd wd len = 1) from vrB_of wd (by omega))
            by_cases hk2 : kind = 2
            · subst hk2
              go_enter Tryz.func91, Tryz.ntmps91
              go_wp2_with (first | (go_at_call 116; refine (HPC.out _).mono ?_; rintro e w' ⟨rfl, rfl⟩) | (go_at_call 87; refine (within_any _ _ _ _).mono ?_; rintro e w' ⟨rfl, rfl⟩) | (go_at_call 128; refine HC.out.mono ?_; rintro e w1 ⟨rfl, hb1⟩; have k0 : Blk w1 w.heap.size #[.int .i64 2, .slice a pins.length c, .int .i64 wd, .int .i64 len] 62 := blkT; have c0 := k0.cell) | (go_at_call 130; refine (validRatio_any _ _ _ (by omega) (by omega) (by omega) (by omega)).mono ?_; rintro e w2 ⟨rfl, hb2⟩))
              go_ret
              exact ⟨ret_bool (by rw [HVR.out, HR.out]; simp), blwT⟩
            · have hz' : (kind != 2) = true := by simpa using hk2
              have HK2 := Lib.hid hk2
              clear hk2
              go_enter Tryz.func91, Tryz.ntmps91
              go_wp2_with (first | (go_at_call 116; refine (HPC.out _).mono ?_; rintro e w' ⟨rfl, rfl⟩) | (go_at_call 87; refine (within_any _ _ _ _).mono ?_; rintro e w' ⟨rfl, rfl⟩) | (go_at_call 128; refine HC.out.mono ?_; rintro e w1 ⟨rfl, hb1⟩; have k0 : Blk w1 w.heap.size #[.int .i64 kind, .slice a pins.length c, .int .i64 wd, .int .i64 len] 62 := blkT; have c0 := k0.cell))
              go_ret
              exact ⟨ret_bool (by rw [HR.out]; simp [HK2.out]), blwT⟩
          · have hr := Lib.hid (HG.out hg)
            go_enter Tryz.func91, Tryz.ntmps91
            go_wp2_with (first | (go_at_call 116; refine (HPC.out _).mono ?_; rintro e w' ⟨rfl, rfl⟩) | (go_at_call 87; refine (within_any _ _ _ _).mono ?_; rintro e w' ⟨rfl, rfl⟩) | (go_at_call 128; refine HC.out.mono ?_; rintro e w1 ⟨rfl, hb1⟩; have k0 : Blk w1 w.heap.size #[.int .i64 kind, .slice a pins.length c, .int .i64 wd, .int .i64 len] 62 := blkT; have c0 := k0.cell))
            go_ret
            exact ⟨ret_bool hr.out.symm, blwT⟩
        · have hr := Lib.hid (HW.out hw)
          go_enter Tryz.func91, Tryz.ntmps91
          go_wp2_with (first | (go_at_call 116; refine (HPC.out _).mono ?_; rintro e w' ⟨rfl, rfl⟩) | (go_at_call 87; refine (within_any _ _ _ _).mono ?_; rintro e w' ⟨rfl, rfl⟩) | (go_at_call 128; refine HC.out.mono ?_; rintro e w1 ⟨rfl, hb1⟩; have k0 : Blk w1 w.heap.size #[.int .i64 kind, .slice a pins.length c, .int .i64 wd, .int .i64 len] 62 := blkT; have c0 := k0.cell))
          go_ret
          exact ⟨ret_bool hr.out.symm, blwT⟩
      · have hr := Lib.hid (HPA.out hp)
        rw [hp] at HC
        clear hp
        go_enter Tryz.func91, Tryz.ntmps91
        go_wp2_with (first | (go_at_call 116; refine (HPC.out _).mono ?_; rintro e w' ⟨rfl, rfl⟩) | (go_at_call 128; refine HC.out.mono ?_; rintro e w1 ⟨rfl, hb1⟩))
        go_ret
        exact ⟨ret_bool hr.out.symm, blwT⟩
    · have hr := Lib.hid (HL.out hl)
      have hl' : ((pins.length : Int) != q) = true := by rw [bne_iff_ne]; omega
      clear hl hqp
      go_enter Tryz.func91, Tryz.ntmps91
      go_wp2_with (go_at_call 116; refine (HPC.out _).mono ?_; rintro e w' ⟨rfl, rfl⟩)
      go_ret
      exact ⟨ret_bool hr.out.symm, blwT⟩
  · have hr := Lib.hid (HK.out hk)
    have hq : pinc kind = 0 := by
      have := inB_not.1 hk
      unfold pinc; rw [if_neg (by omega), if_neg (by omega), if_neg (by omega)]
    rw [hq] at HPC
    clear hq
    go_enter Tryz.func91, Tryz.ntmps91
    go_wp2_with (go_at_call 116; refine (HPC.out _).mono ?_; rintro e w' ⟨rfl, rfl⟩)
    go_ret
    exact ⟨ret_bool hr.out.symm, blwT⟩
set_option maxRecDepth 100000 in
set_option maxHeartbeats 4000000 in
theorem specNl_any (x : Nl) (v : Value) (w : World) (h : NlV w v x) (hok : ∀ p ∈ x.ps, p.ok) (hnn : Fits x.nets) :
    Calls Tryz.prog 35 #[v] w fun e w' => e = .returned (.bool (nlB x)) ∧ Below w.heap.size w w' := by
  obtain ⟨s1, s2, rfl, hd, hp⟩ := h
  have HNn := Lib.hid (@nlB_nets x)
  have HND := Lib.hid (@nlB_ds x)
  have HNP := Lib.hid (@nlB_ps x)
  have HDV := Lib.hid (fun k d => @nlB_dv x k d)
  have HPT := Lib.hid (fun i => @nlB_pt i x)
  have HEN := Lib.hid (@nlB_pts x)
  obtain ⟨nets, ds, ps⟩ := x
  dsimp only at hd hp hok hnn HNn HND HNP HDV HPT HEN ⊢
  generalize nlB ⟨nets, ds, ps⟩ = r at *
  have hdl : ds.length ≤ maxLen := by
    rcases hd with ⟨_, _, _, h2⟩ | ⟨b, off, cap, h1, h2, h3, _⟩
    · subst h2; simp
    · exact Nat.le_trans h2 h3
  have hpl : ps.length ≤ maxLen := by
    rcases hp with ⟨_, _, _, h2⟩ | ⟨b, off, cap, h1, h2, h3, _⟩
    · subst h2; simp
    · exact Nat.le_trans h2 h3
  unfold maxLen at hdl hpl
  have HD := Lib.hid hd
  have HP := Lib.hid hp
  obtain ⟨a1, c1, rfl⟩ := hd.sized
  obtain ⟨a2, c2, rfl⟩ := hp.sized
  clear hd hp
  rcases Bool.eq_false_or_eq_true (inB nets 0 24) with hn | hn
  · have hn' := inB_iff.1 hn
    have HN1 := Lib.hid hn
    by_cases h24 : ds.length ≤ 24
    · by_cases h8 : ps.length ≤ 8
      · have HK := Lib.hid hok
        clear hok
        go_enter Tryz.func35, Tryz.ntmps35
        go_wp2_with (go_at_call 81; refine (l16In_any _ _ _ _).mono ?_; rintro e w' ⟨rfl, rfl⟩)
        go_loopw [3] (fun i wr => ∃ k : Nat, k ≤ ds.length ∧ i = .int .i64 k ∧ Hid (∀ (j : Nat) d, j < k → ds[j]? = some d → dvB nets d = true) ∧ Blk wr w.heap.size #[.int .i64 nets, .slice a1 ds.length c1, .slice a2 ps.length c2] 35 ∧ Below w.heap.size w wr) (fun i _ => ds.length - (intOf i).toNat)
        case atStart => exact ⟨0, Nat.zero_le _, rfl, Lib.hid (by intro j d hj; omega), blkT, blwT⟩
        case round =>
          obtain ⟨k, hk, rfl, HI, kN, hb⟩ := hrel
          have cN := kN.cell
          by_cases hlt : k < ds.length
          · obtain ⟨x, hx⟩ : ∃ x, ds[k]? = some x := ⟨ds[k], List.getElem?_eq_getElem hlt⟩
            have HX := Lib.hid hx
            have HDS := HD.out
            rcases HDS with ⟨_, _, _, h2⟩ | ⟨b, off, cap, he, h2, h3, h4⟩
            · rw [h2] at hlt; simp at hlt
            obtain ⟨rfl, rfl⟩ : a1 = some ⟨b, off, none⟩ ∧ c1 = cap := by simpa using he
            obtain ⟨sv, d1, d2, d3, d4, hS⟩ := (h4 k x hx).by hb
            have HT := Lib.hid (fun w h => l27Device_any x sv nets w h (by omega) (by omega))
            obtain ⟨a', c', rfl⟩ := hS.len
            have i1 : (0 : Int) ≤ (k : Int) := by omega
            have i2 : (k : Int) < (ds.length : Int) := by omega
            clear h4 hx he
            cases hq : dvB nets x with
            | false =>
              rw [hq] at HT
              have HQ := Lib.hid (HDV.out k x HX.out hq)
              clear hq
              go_wp2_with fail
              go_region_held3 (fun w' => (Blk w' w.heap.size #[.int .i64 nets, .slice (some ⟨b, off, none⟩) ds.length c1, .slice a2 ps.length c2] 35 ∧ ∀ o, w'.cell? ⟨w.heap.size, o, none⟩ = (#[.int .i64 nets, .slice (some ⟨b, off, none⟩) ds.length c1, .slice a2 ps.length c2] : Array Value)[o]?) ∧ (w'.cell? ⟨b, off + k * 4, none⟩ = some (.int .i64 x.kind) ∧ w'.cell? ⟨b, off + k * 4 + 1, none⟩ = some (.slice a' x.pins.length c') ∧ w'.cell? ⟨b, off + k * 4 + 2, none⟩ = some (.int .i64 x.wd) ∧ w'.cell? ⟨b, off + k * 4 + 3, none⟩ = some (.int .i64 x.len)) ∧ Below w.heap.size w w')
                (first | exact ⟨kN.both, ⟨d1, d2, d3, d4⟩, hb.drew⟩ | exact ⟨(Blk.by hb1 kN).both, ⟨cell_by' hb1 d1, cell_by' hb1 d2, cell_by' hb1 d3, cell_by' hb1 d4⟩, below_on hb1 hb.drew⟩)
                (first | (go_at_call 82; refine (HT.out _ (hS.by (below_of_drewN _ 1))).mono ?_; rintro e w1 ⟨rfl, hb1⟩))
              go_wp2
              go_ret
              exact ⟨ret_bool HQ.out.symm, below_on hb1 hb.drew⟩
            | true =>
              rw [hq] at HT
              have HQ := Lib.hid hq
              clear hq
              go_wp2_with fail
              go_region_held3 (fun w' => (Blk w' w.heap.size #[.int .i64 nets, .slice (some ⟨b, off, none⟩) ds.length c1, .slice a2 ps.length c2] 35 ∧ ∀ o, w'.cell? ⟨w.heap.size, o, none⟩ = (#[.int .i64 nets, .slice (some ⟨b, off, none⟩) ds.length c1, .slice a2 ps.length c2] : Array Value)[o]?) ∧ (w'.cell? ⟨b, off + k * 4, none⟩ = some (.int .i64 x.kind) ∧ w'.cell? ⟨b, off + k * 4 + 1, none⟩ = some (.slice a' x.pins.length c') ∧ w'.cell? ⟨b, off + k * 4 + 2, none⟩ = some (.int .i64 x.wd) ∧ w'.cell? ⟨b, off + k * 4 + 3, none⟩ = some (.int .i64 x.len)) ∧ Below w.heap.size w w')
                (first | exact ⟨kN.both, ⟨d1, d2, d3, d4⟩, hb.drew⟩ | exact ⟨(Blk.by hb1 kN).both, ⟨cell_by' hb1 d1, cell_by' hb1 d2, cell_by' hb1 d3, cell_by' hb1 d4⟩, below_on hb1 hb.drew⟩)
                (first | (go_at_call 82; refine (HT.out _ (hS.by (below_of_drewN _ 1))).mono ?_; rintro e w1 ⟨rfl, hb1⟩))
              go_wp2
              exact ⟨⟨k + 1, by omega, by go_num, Lib.hid (fun j y hj hy => by
                by_cases e : j = k
                · subst e; obtain rfl : y = x := Option.some.inj (hy.symm.trans HX.out); exact HQ.out
                · exact HI.out j y (by omega) hy), Blk.by hb1 kN, below_on hb1 hb.drew⟩, by simp [intOf]; omega⟩
          · obtain rfl : k = ds.length := by omega
            have hall := all_dv (fun j d hj => HI.out j d hj)
            have HALL := Lib.hid hall
            clear hall
            clear HI HDV
            go_wp2
            go_loopw [4] (fun i wr => ∃ k : Nat, k ≤ ps.length ∧ i = .int .i64 k ∧ Hid (∀ (j : Nat), j < k → ptOk nets ps j = true) ∧ Blk wr w.heap.size #[.int .i64 nets, .slice a1 ds.length c1, .slice a2 ps.length c2] 35 ∧ Below w.heap.size w wr) (fun i _ => ps.length - (intOf i).toNat)
            case atStart => exact ⟨0, Nat.zero_le _, rfl, Lib.hid (by intro j hj; omega), kN, hb⟩
            case round =>
              clear kN hb cN
              obtain ⟨k, hk, rfl, HI, kN, hb⟩ := hrel
              have cN := kN.cell
              by_cases hlt : k < ps.length
              · obtain ⟨x, hx⟩ : ∃ x, ps[k]? = some x := ⟨ps[k], List.getElem?_eq_getElem hlt⟩
                have HX := Lib.hid hx
                have HPS := HP.out
                rcases HPS with ⟨_, _, _, h2⟩ | ⟨b, off, cap, he, h2, h3, h4⟩
                · rw [h2] at hlt; simp at hlt
                obtain ⟨rfl, rfl⟩ : a2 = some ⟨b, off, none⟩ ∧ c2 = cap := by simpa using he
                obtain ⟨p1, p2⟩ := (h4 k x hx).by hb
                have hsz : x.name.size ≤ 9223372036854775807 := (HK.out x (List.mem_of_getElem? hx)).1
                have i1 : (0 : Int) ≤ (k : Int) := by omega
                have i2 : (k : Int) < (ps.length : Int) := by omega
                clear hx he
                rcases Bool.eq_false_or_eq_true (nameB x.name) with hnm | hnm
                · by_cases hk0 : k = 0
                  · have HK0 := Lib.hid hk0
                    have hx0 := HX.out
                    rw [hk0] at hx0
                    have HX0 := Lib.hid hx0
                    have hkz : decide (0 < k) = false := by rw [decide_eq_false_iff_not]; omega
                    clear h4 hk0 hx0
                    rcases Bool.eq_false_or_eq_true (inB x.net 0 (nets - 1)) with hin | hin
                    · have HOK := Lib.hid (HK0.out.symm ▸ ptOk_zero HX0.out hnm hin : ptOk nets ps k = true)
                      go_wp2
                      go_quiet ((first | (go_at_call 83; exact Calls.quiet_of_same ((specIsName_any x.name _ hsz).mono fun _ _ h => ⟨h.1, h.2.symm⟩)) | (go_at_call 81; exact Calls.quiet_of_same ((l16In_any _ _ _ _).mono fun _ _ h => ⟨h.1, h.2.symm⟩))))
                      go_wp2
                      exact ⟨⟨k + 1, by omega, by go_num, Lib.hid (fun i hj => by
                        by_cases e : i = k
                        · subst e; exact HOK.out
                        · exact HI.out i (by omega)), blkT, blwT⟩, by simp [intOf]; omega⟩
                    · have hr := Lib.hid (HPT.out _ hlt (ptOk_net HX.out hin))
                      go_wp2
                      go_quiet ((first | (go_at_call 83; exact Calls.quiet_of_same ((specIsName_any x.name _ hsz).mono fun _ _ h => ⟨h.1, h.2.symm⟩)) | (go_at_call 81; exact Calls.quiet_of_same ((l16In_any _ _ _ _).mono fun _ _ h => ⟨h.1, h.2.symm⟩))))
                      go_wp2
                      go_ret
                      exact ⟨ret_bool hr.out.symm, blwT⟩
                  · obtain ⟨j, rfl⟩ : ∃ j, k = j + 1 := ⟨k - 1, by omega⟩
                    obtain ⟨y, hy⟩ : ∃ y, ps[j]? = some y := ⟨ps[j]'(by omega), List.getElem?_eq_getElem (by omega)⟩
                    have HY := Lib.hid hy
                    obtain ⟨q1, q2⟩ := (h4 j y hy).by hb
                    have j1 : (0 : Int) < (j : Int) + 1 := by omega
                    have j2 : (0 : Int) ≤ (j : Int) := by omega
                    have j3 : (j : Int) < (ps.length : Int) := by omega
                    have j4 : (j : Int) + 1 < (ps.length : Int) := by omega
                    clear hy h4
                    rcases Bool.eq_false_or_eq_true (Op.bytesLess y.name.toList x.name.toList) with hls | hls
                    · rcases Bool.eq_false_or_eq_true (inB x.net 0 (nets - 1)) with hin | hin
                      · have HOK := Lib.hid (ptOk_succ HX.out HY.out hnm hin hls)
                        go_wp2
                        go_quiet ((first | (go_at_call 83; exact Calls.quiet_of_same ((specIsName_any x.name _ hsz).mono fun _ _ h => ⟨h.1, h.2.symm⟩)) | (go_at_call 81; exact Calls.quiet_of_same ((l16In_any _ _ _ _).mono fun _ _ h => ⟨h.1, h.2.symm⟩))))
                        go_wp2
                        exact ⟨⟨(j + 1) + 1, by omega, by go_num, Lib.hid (fun i hj => by
                          by_cases e : i = (j + 1)
                          · subst e; exact HOK.out
                          · exact HI.out i (by omega)), blkT, blwT⟩, by simp [intOf]; omega⟩
                      · have hr := Lib.hid (HPT.out _ hlt (ptOk_net HX.out hin))
                        go_wp2
                        go_quiet ((first | (go_at_call 83; exact Calls.quiet_of_same ((specIsName_any x.name _ hsz).mono fun _ _ h => ⟨h.1, h.2.symm⟩)) | (go_at_call 81; exact Calls.quiet_of_same ((l16In_any _ _ _ _).mono fun _ _ h => ⟨h.1, h.2.symm⟩))))
                        go_wp2
                        go_ret
                        exact ⟨ret_bool hr.out.symm, blwT⟩
                    · have hr := Lib.hid (HPT.out _ hlt (ptOk_lt HX.out HY.out hls))
                      go_wp2
                      go_quiet ((first | (go_at_call 83; exact Calls.quiet_of_same ((specIsName_any x.name _ hsz).mono fun _ _ h => ⟨h.1, h.2.symm⟩)) | (go_at_call 81; exact Calls.quiet_of_same ((l16In_any _ _ _ _).mono fun _ _ h => ⟨h.1, h.2.symm⟩))))
                      go_wp2
                      go_ret
                      exact ⟨ret_bool hr.out.symm, blwT⟩
                · have hr := Lib.hid (HPT.out _ hlt (ptOk_name HX.out hnm))
                  go_wp2
                  go_quiet ((first | (go_at_call 83; exact Calls.quiet_of_same ((specIsName_any x.name _ hsz).mono fun _ _ h => ⟨h.1, h.2.symm⟩)) | (go_at_call 81; exact Calls.quiet_of_same ((l16In_any _ _ _ _).mono fun _ _ h => ⟨h.1, h.2.symm⟩))))
                  go_wp2
                  go_ret
                  exact ⟨ret_bool hr.out.symm, blwT⟩
              · obtain rfl : k = ps.length := by omega
                have hr := Lib.hid ((HEN.out HN1.out h24 h8 (fun i hi => HI.out i hi)).trans HALL.out)
                go_wp2
                go_ret
                exact ⟨ret_bool hr.out.symm, hb⟩
      · have hr := Lib.hid (HNP.out h8)
        go_enter Tryz.func35, Tryz.ntmps35
        go_wp2_with (go_at_call 81; refine (l16In_any _ _ _ _).mono ?_; rintro e w' ⟨rfl, rfl⟩)
        go_ret
        exact ⟨ret_bool hr.out.symm, blwT⟩
    · have hr := Lib.hid (HND.out h24)
      go_enter Tryz.func35, Tryz.ntmps35
      go_wp2_with (go_at_call 81; refine (l16In_any _ _ _ _).mono ?_; rintro e w' ⟨rfl, rfl⟩)
      go_ret
      exact ⟨ret_bool hr.out.symm, blwT⟩
  · have hr := Lib.hid (HNn.out hn)
    go_enter Tryz.func35, Tryz.ntmps35
    go_wp2_with (go_at_call 81; refine (l16In_any _ _ _ _).mono ?_; rintro e w' ⟨rfl, rfl⟩)
    go_ret
    exact ⟨ret_bool hr.out.symm, blwT⟩
end Go.Proofs.YtifbffianbgeaaaGreat
