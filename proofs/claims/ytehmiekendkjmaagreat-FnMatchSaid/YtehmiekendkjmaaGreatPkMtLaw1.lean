/- Contracts and plain laws, part 1, for the statement's proof. -/
import Derived.Test.YtehmiekendkjmaaGreatRows
import Derived.WalkKit
import Derived.Deep.Draws
import Derived.Lib.Hide
import Derived.ProofKit
import Derived.OpenShut
import Derived.Lib.SmallJoins
import Derived.Deep.RegionHeld3
import Derived.Deep.QuietTactic
import Derived.BigQuiet
import Derived.Deep.RegionHeldLaw
import Derived.StillTail
import Derived.StillTailTactics
import Derived.Deep.DeepCutAuto
import Derived.Deep.AppendSrc
import Derived.Laws.AppendOwn
import Derived.Lib.SliceRun
import Derived.BigRegion
import Derived.Deep.Slices
import Derived.Laws.BytesArg
import Derived.WalkLawsBesides
namespace Go.Proofs.YtehmiekendkjmaaGreat
open Go.RowKit
theorem below_drewN {B : Nat} {a w : World} (h : Below B a w) (n : Nat) : Below B a (w.drewN n) := h.trans ⟨rfl, rfl, rfl, Nat.le_refl _, fun _ _ => rfl⟩
theorem below_of_drewN (w : World) (n : Nat) : Below w.heap.size w (w.drewN n) := below_drewN (Below.refl _ _) n
theorem below_on {a W w1 : World} (hb : Below W.heap.size W w1) (h : Below a.heap.size a W) : Below a.heap.size a w1 := h.trans (hb.mono h.size)
theorem below_al {a W : World} (h : Below a.heap.size a W) (o : Obj) : Below a.heap.size a (W.alloc o) := h.alloc h.size o
theorem with_fact {p q : Prop} (hp : p) (k : p → q) : q := k hp
theorem ret_i64 {a b : Int} (h : a = b) : Ending.returned (.int .i64 a) = .returned (.int .i64 b) := by rw [h]
theorem ret_u64 {a b : Int} (h : a = b) : Ending.returned (.int .u64 a) = .returned (.int .u64 b) := by rw [h]
theorem ret_bool {a b : Bool} (h : a = b) : Ending.returned (.bool a) = .returned (.bool b) := by rw [h]
/- What the arguments' readings give: one opener a shape. -/
open Go.ChangeShapes Go.WideShapes Go.ChangeAt Go.RowKit Go.Joins
/- Blocks of memory that a walk knows whole: carried over a callee's contract without any reckoning of sizes. -/
def Blk (w : World) (g : Nat) (cs : Array Value) (T : TypeId) : Prop := w.heap[g]? = some (.cells cs T (0, 0))
section
variable {w w1 : World} {g : Nat} {cs : Array Value} {T : TypeId}
theorem Blk.cell (h : Blk w g cs T) : ∀ o, w.cell? ⟨g, o, none⟩ = cs[o]? := fun o => by unfold Blk at h; simp [World.cell?, h]
theorem Blk.free (h : Blk w g cs T) : ∀ o, w.frozen? ⟨g, o, none⟩ = false := fun o => by unfold Blk at h; simp [World.frozen?, h]
theorem Blk.both (h : Blk w g cs T) : Blk w g cs T ∧ ∀ o, w.cell? ⟨g, o, none⟩ = cs[o]? := ⟨h, h.cell⟩
theorem Blk.lt (h : Blk w g cs T) : g < w.heap.size := by
  unfold Blk at h
  rcases Nat.lt_or_ge g w.heap.size with h' | h'
  · exact h'
  · rw [Array.getElem?_eq_none h'] at h; cases h
theorem Blk.by (hb : Below w.heap.size w w1) (h : Blk w g cs T) : Blk w1 g cs T := (hb.block g h.lt).trans h
theorem Blk.new (n : Nat) (hn : n = w.heap.size) : Blk (w.alloc (.cells cs T)) n cs T := by subst hn; unfold Blk World.alloc; simp
theorem Blk.past (h : Blk w g cs T) (o : Obj) : Blk (w.alloc o) g cs T := (Below.heap_alloc w o g h.lt).trans h
theorem Blk.drew (h : Blk w g cs T) : Blk w.drew g cs T := h
theorem Blk.drewN (h : Blk w g cs T) (n : Nat) : Blk (w.drewN n) g cs T := h
theorem Blk.set (h : Blk w g cs T) (o : Nat) (v : Value) : Blk (w.setCell ⟨g, o, none⟩ v) g (cs.setIfInBounds o v) T := by
  unfold Blk at *
  simp [World.setCell, Array.getElem?_modify, h]
theorem Blk.apart (h : Blk w g cs T) (b o : Nat) (v : Value) (hne : g ≠ b) : Blk (w.setCell ⟨b, o, none⟩ v) g cs T := by
  exact (Below.heap_setCell w ⟨b, o, none⟩ v g hne).trans h
theorem Blk.set2 {a b x y : Value} (h : Blk w g #[a, b] T) : Blk ((w.setCell ⟨g, 0, none⟩ x).setCell ⟨g, 1, none⟩ y) g #[x, y] T := (h.set 0 x).set 1 y
theorem Blk.set1 {a x : Value} (h : Blk w g #[a] T) : Blk (w.setCell ⟨g, 0, none⟩ x) g #[x] T := h.set 0 x
end
theorem blwT {B : Nat} {a w : World} (h : Below B a w := by ((repeat (first | (with_reducible exact Below.refl _ _) | (with_reducible refine below_drewN ?_ _) | (with_reducible refine Below.drew ?_) | (with_reducible refine below_al ?_ _) | (with_reducible refine below_on (by assumption) ?_) | ((with_reducible refine Below.setCell ?_ ?_ _); rotate_left; focus (first | omega | (simp; done) | (simp; omega))) | (with_reducible assumption))); done)) : Below B a w := h
theorem blkT {w : World} {g : Nat} {cs : Array Value} {T : TypeId} (h : Blk w g cs T := by ((repeat (first | (with_reducible assumption) | (with_reducible refine Blk.drewN ?_ _) | (with_reducible refine Blk.drew ?_) | ((with_reducible refine Blk.new _ ?_); focus (first | omega | (simp; done) | (simp; omega))) | (with_reducible refine Blk.past ?_ _) | ((with_reducible refine Blk.apart ?_ _ _ _ ?_); rotate_left; focus (first | omega | (simp; done) | (simp; omega))) | (with_reducible refine Blk.by (by assumption) ?_))); done)) : Blk w g cs T := h
/- Worlds in which one block alone has turned. -/
structure Only (g : Nat) (w w' : World) : Prop where
  os : w'.os = w.os
  tape : w'.tape = w.tape
  output : w'.output = w.output
  size : w'.heap.size = w.heap.size
  block : ∀ k, k ≠ g → w'.heap[k]? = w.heap[k]?
theorem Only.refl (g : Nat) (w : World) : Only g w w := ⟨rfl, rfl, rfl, rfl, fun _ _ => rfl⟩
theorem Only.set {g : Nat} {a w : World} (h : Only g a w) (o : Nat) (v : Value) : Only g a (w.setCell ⟨g, o, none⟩ v) :=
  ⟨h.os, h.tape, h.output, by simp [World.setCell, h.size], fun k hk => (Below.heap_setCell w ⟨g, o, none⟩ v k hk).trans (h.block k hk)⟩
theorem Only.drewN {g : Nat} {a w : World} (h : Only g a w) (n : Nat) : Only g a (w.drewN n) := ⟨h.os, h.tape, h.output, h.size, h.block⟩
theorem Only.below {g B : Nat} {a w w' : World} (h : Only g w w') (hb : Below B a w) (hg : B ≤ g) : Below B a w' :=
  hb.trans ⟨h.os, h.tape, h.output, Nat.le_of_eq h.size.symm, fun k hk => h.block k (by omega)⟩
theorem Only.blk {g f : Nat} {w w' : World} {cs : Array Value} {T : TypeId} (h : Only g w w') (hf : Blk w f cs T) (hne : f ≠ g) : Blk w' f cs T := (h.block f hne).trans hf
/- Slices of int64: what a walk knows of one, and the contracts of the functions of package laws over them. -/
set_option linter.unusedVariables false
set_option linter.unusedSimpArgs false
def IntSl (w : World) (sv : Value) (zs : List Int) : Prop :=
  (∃ a c, sv = .slice a 0 c ∧ zs = []) ∨ ∃ b off cap, sv = .slice (some ⟨b, off, none⟩) zs.length cap ∧ zs.length ≤ cap ∧ cap ≤ maxLen ∧ ∀ (i : Nat) (x : Int), zs[i]? = some x → w.cell? ⟨b, off + i, none⟩ = some (.int .i64 x)
def IBlk (w : World) (g : Nat) (zs : List Int) : Prop := ∃ cs : Array Value, Blk w g cs 2 ∧ cs.size = zs.length ∧ ∀ (i : Nat) (x : Int), zs[i]? = some x → cs[i]? = some (Value.int .i64 x)
def Fits (x : Int) : Prop := -9223372036854775808 ≤ x ∧ x ≤ 9223372036854775807
theorem cell_by' {w w1 : World} {p : Addr} {v : Value} (hb : Below w.heap.size w w1) (h : w.cell? p = some v) : w1.cell? p = some v := by
  have hlt : p.block < w.heap.size := by
    rcases Nat.lt_or_ge p.block w.heap.size with h' | h'
    · exact h'
    · simp [World.cell?, Array.getElem?_eq_none h'] at h
  rw [hb.cell hlt]; exact h
theorem IntSl.by {w w1 : World} {sv : Value} {zs : List Int} (hb : Below w.heap.size w w1) (h : IntSl w sv zs) : IntSl w1 sv zs := by
  rcases h with h | ⟨b, off, cap, h1, h2, h3, h4⟩
  · exact .inl h
  · exact .inr ⟨b, off, cap, h1, h2, h3, fun i x hx => cell_by' hb (h4 i x hx)⟩
theorem IntSl.len {w : World} {sv : Value} {zs : List Int} (h : IntSl w sv zs) : ∃ a c, sv = .slice a zs.length c := by
  rcases h with ⟨a, c, h1, h2⟩ | ⟨b, off, cap, h1, _⟩
  · subst h2; exact ⟨a, c, h1⟩
  · exact ⟨_, _, h1⟩
theorem IntSl.le {w : World} {sv : Value} {zs : List Int} (h : IntSl w sv zs) : zs.length ≤ 9223372036854775807 := by
  rcases h with ⟨a, c, h1, h2⟩ | ⟨b, off, cap, h1, h2, h3, _⟩
  · subst h2; simp
  · unfold maxLen at h3; omega
theorem IBlk.by {w w1 : World} {g : Nat} {zs : List Int} (hb : Below w.heap.size w w1) (h : IBlk w g zs) : IBlk w1 g zs := by
  obtain ⟨cs, h1, h2⟩ := h; exact ⟨cs, Blk.by hb h1, h2⟩
theorem IBlk.sl {w : World} {g : Nat} {zs : List Int} (h : IBlk w g zs) (hm : zs.length ≤ 9223372036854775807) : IntSl w (.slice (some ⟨g, 0, none⟩) zs.length zs.length) zs := by
  obtain ⟨cs, h1, h2, h3⟩ := h
  refine .inr ⟨g, 0, zs.length, rfl, Nat.le_refl _, by unfold maxLen; omega, fun i x hx => ?_⟩
  rw [Nat.zero_add, h1.cell]; exact h3 i x hx
theorem IBlk.alloc {w : World} {g : Nat} {zs : List Int} (h : IBlk w g zs) (o : Obj) : IBlk (w.alloc o) g zs := by
  obtain ⟨cs, h1, h2⟩ := h; exact ⟨cs, h1.past o, h2⟩
theorem IBlk.apart {w : World} {g : Nat} {zs : List Int} (h : IBlk w g zs) (b o : Nat) (v : Value) (hne : g ≠ b) : IBlk (w.setCell ⟨b, o, none⟩ v) g zs := by
  obtain ⟨cs, h1, h2⟩ := h; exact ⟨cs, h1.apart b o v hne, h2⟩
theorem IBlk.drewN {w : World} {g : Nat} {zs : List Int} (h : IBlk w g zs) (n : Nat) : IBlk (w.drewN n) g zs := by
  obtain ⟨cs, h1, h2⟩ := h; exact ⟨cs, h1.drewN n, h2⟩
theorem IBlk.lt {w : World} {g : Nat} {zs : List Int} (h : IBlk w g zs) : g < w.heap.size := by
  obtain ⟨cs, h1, h2⟩ := h; exact h1.lt
theorem infoI : (Tryz.prog.info? 2).map (fun i => (i.zero, i.size, i.bytes)) = some (some (.int .i64 0), 1, 8) := by kernel_rfl
theorem make_ints (n : Nat) (hn : n ≤ 1048576) (w : World) : ∃ cs : Array Value, cs.size = n ∧ (∀ i, i < n → cs[i]? = some (Value.int .i64 0)) ∧ (Instr.makeSlice 30 (.int .i64 n) (.int .i64 n)).run Tryz.prog w = .ok (.slice (some ⟨w.heap.size, 0, none⟩) n n) (w.alloc (.cells cs 2)) := by
  obtain ⟨i0, hi, hz0, hz1, hz2⟩ := info_parts infoI
  have h := run_make (P := Tryz.prog) w 30 2 i0 _ Tryz.underlying30 hi hz0 .i64 .i64 (n : Int) (n : Int) (by omega) (by omega) (by rw [hz2]; omega) (by omega)
  simp only [Int.toNat_natCast, hz1, Nat.mul_one] at h
  refine ⟨_, size_madeCells _ _, fun i hi => ?_, h⟩
  simp [madeCells, hi, Value.cells, Nat.mod_one]
/- The first place at which a predicate holds: plain. -/
def fidx {α : Type} (p : α → Bool) (xs : List α) : Int := match xs.findIdx? p with | some k => (k : Int) | none => -1
section
variable {α : Type} {p : α → Bool} {xs : List α}
theorem fidx_hit {k : Nat} {x : α} (hk : xs[k]? = some x) (hp : p x = true) (hb : ∀ j y, j < k → xs[j]? = some y → p y = false) : fidx p xs = k := by
  have : xs.findIdx? p = some k := by
    rw [List.findIdx?_eq_some_iff_getElem]
    obtain ⟨h, e⟩ := List.getElem?_eq_some_iff.1 hk
    refine ⟨h, by rw [e]; exact hp, fun j hj => ?_⟩
    have := hb j xs[j] hj (List.getElem?_eq_getElem (by omega))
    simp [this]
  simp [fidx, this]
theorem fidx_miss (hb : ∀ (j : Nat) y, xs[j]? = some y → p y = false) : fidx p xs = -1 := by
  have : xs.findIdx? p = none := by
    rw [List.findIdx?_eq_none_iff]
    intro x hx
    obtain ⟨j, hj, e⟩ := List.mem_iff_getElem.1 hx
    have := hb j x (by rw [List.getElem?_eq_getElem hj, e])
    simp [this]
  simp [fidx, this]
theorem fidx_any : decide (0 ≤ fidx p xs) = xs.any p := by
  unfold fidx
  cases h : xs.findIdx? p with
  | none =>
    rw [List.findIdx?_eq_none_iff] at h
    have : xs.any p = false := by rw [List.any_eq_false]; intro x hx; simp [h x hx]
    simp [this]
  | some k =>
    rw [List.findIdx?_eq_some_iff_getElem] at h
    obtain ⟨h, e, _⟩ := h
    have : xs.any p = true := by rw [List.any_eq_true]; exact ⟨_, List.getElem_mem h, e⟩
    simp [this]
end
/- Regions that draw their order and whose last operation stores into what they read: what must hold of the world need not hold behind that last operation. -/
section
variable {P : Program} {ops : Array Oper} {Q : Exit → Act → World → Prop} {md : Region.Mode} {S : World → Prop} {l : Nat}
def wpAnyE (P : Program) (md : Region.Mode) (ops : Array Oper) (Q : Exit → Act → World → Prop) (S : World → Prop) (l : Nat) : Nat → Array Bool → Act → World → Prop
  | 0, listed, a, w => Region.ready md ops listed = [] ∧ Q .normal a w
  | fuel + 1, listed, a, w =>
    (Region.ready md ops listed = [] → Q .normal a w) ∧
    ∀ i ∈ Region.ready md ops listed, wpOp P ops Q i (fun a' w' => (i ≠ l → S w') ∧ wpAnyE P md ops Q S l fuel (listed.setIfInBounds i true) a' w') a w
theorem wpAny_of_E : ∀ (fuel : Nat) (listed : Array Bool) (a : Act) (w : World), wpAnyE P md ops Q S l fuel listed a w → wpAny P md ops Q fuel listed a w
  | 0, _, _, _, h => h
  | fuel + 1, _, _, _, h => ⟨h.1, fun i hi => wpOp_mono (fun a' w' h' => wpAny_of_E fuel _ a' w' h'.2) (h.2 i hi)⟩
theorem wpAnyE_first {i : Nat} {oi : Oper} {v : Value} (hi : ops[i]? = some oi) (hsel : ∀ (j : Nat) (o : Oper) cs b, ops[j]? = some o → o.op ≠ .select cs b)
    (hQ : ∀ c a w, Q (.panic c) (a.put oi.dst v) w → Q (.panic c) a w) (hs : Region.sinkB md ops l = true) (hc : Region.chainB md ops l = true) (hn : l < ops.size) (hil : i < l) :
    ∀ (fuel : Nat) (listed : Array Bool) (a : Act) (w : World), HeadInv md ops l listed →
      (∀ j oj, ops[j]? = some oj → j ≠ i → listed.getD j true = false → (∀ e ∈ oj.after, Region.binds md e = true → e.on ≠ i) → oi.apart ops oj = true) →
      i ∈ Region.ready md ops listed → YieldsIf P ops S oi v a → S w →
      wpAnyE P md ops Q S l fuel (listed.setIfInBounds i true) (a.put oi.dst v) w → wpAnyE P md ops Q S l (fuel + 1) listed a w := by
  intro fuel
  induction fuel with
  | zero =>
    intro listed a w inv _ hr hy hS H
    refine ⟨fun h => (by rw [h] at hr; cases hr), fun j hj => ?_⟩
    by_cases hji : j = i
    · subst hji; exact hy.wpOp hi hS ⟨fun _ => hS, H⟩
    · have := ready_mono hj hji
      rw [H.1] at this
      cases this
  | succ fuel ih =>
    intro listed a w inv hfree hr hy hS H
    have hun := (mem_ready.1 hr).1
    refine ⟨fun h => (by rw [h] at hr; cases hr), fun j hj => ?_⟩
    have hjl : j < l := by
      rcases Nat.lt_or_ge j l with h | h
      · exact h
      · exact absurd hj (tail_waits hs hc hn inv _ i rfl hil hun j h)
    by_cases hji : j = i
    · subst hji; exact hy.wpOp hi hS ⟨fun _ => hS, H⟩
    · have h1 := H.2 j (ready_mono hj hji)
      obtain ⟨hjun, oj, hoj, hall⟩ := mem_ready.1 hj
      have hnot : ∀ e ∈ oj.after, Region.binds md e = true → e.on ≠ i := fun e he hb heq => by
        have h1 := hall e he hb
        rw [heq, getD_both hun] at h1
        cases h1
      have h2 := wpOp_putIf hoj (hfree j oj hoj hji hjun hnot) (fun cs b => hsel i oi cs b hi) (fun cs b => hsel j oj cs b hoj) hQ hy h1
      have hfree' : ∀ k ok, ops[k]? = some ok → k ≠ i → (listed.setIfInBounds j true).getD k true = false →
          (∀ e ∈ ok.after, Region.binds md e = true → e.on ≠ i) → oi.apart ops ok = true := fun k ok hk hki hun hno => by
        refine hfree k ok hk hki ?_ hno
        by_cases hjk : j = k
        · subst hjk; exact hjun
        · rw [getD_set_ne true hjk] at hun; exact hun
      refine wpOp_mono (fun a' w' h3 => ⟨h3.2.1, ih (listed.setIfInBounds j true) a' w' (inv.set hj hjl) hfree' (ready_mono hr (Ne.symm hji)) h3.1 (h3.2.1 (by omega)) ?_⟩) h2
      rw [Array.setIfInBounds_comm _ _ hji]
      exact h3.2.2
def headB (md : Region.Mode) (ops : Array Oper) (l : Nat) (listed : Array Bool) : Bool :=
  decide (listed.size = ops.size) && ((List.range ops.size).all fun j => !listed.getD j false || ((ops[j]?).map (·.after.all fun e => !Region.binds md e || listed.getD e.on false)).getD true) && ((List.range ops.size).all fun t => decide (t < l) || !listed.getD t true)
theorem headB_inv {listed : Array Bool} (h : headB md ops l listed = true) : HeadInv md ops l listed := by
  simp only [headB, Bool.and_eq_true, decide_eq_true_eq, List.all_eq_true, List.mem_range, Bool.or_eq_true, Bool.not_eq_true'] at h
  obtain ⟨⟨h1, h2⟩, h3⟩ := h
  refine ⟨h1, fun j oj hj hl e he hb => ?_, fun t ht ht' => ?_⟩
  · have hlt : j < ops.size := (Array.getElem?_eq_some_iff.1 hj).1
    rcases h2 j hlt with h | h
    · rw [hl] at h; cases h
    · rw [hj] at h
      simp only [Option.map_some, Option.getD_some, Array.all_eq_true_iff_forall_mem, Bool.or_eq_true, Bool.not_eq_true'] at h
      rcases h e he with h | h
      · rw [hb] at h; cases h
      · exact h
  · rcases h3 t ht' with h | h
    · omega
    · exact h
theorem wpAnyE_take {i : Nat} {oi : Oper} {v : Value} {fuel : Nat} {listed : Array Bool} {a : Act} {w : World} (hi : ops[i]? = some oi)
    (hk : (Region.noSelect ops && Region.free md ops listed i && (Region.ready md ops listed).contains i && headB md ops l listed && Region.sinkB md ops l && Region.chainB md ops l && decide (l < ops.size) && decide (i < l)) = true)
    (hQ : ∀ c a w, Q (.panic c) (a.put oi.dst v) w → Q (.panic c) a w) (hy : YieldsIf P ops S oi v a) (hS : S w)
    (h : wpAnyE P md ops Q S l fuel (listed.setIfInBounds i true) (a.put oi.dst v) w) : wpAnyE P md ops Q S l (fuel + 1) listed a w := by
  simp only [Bool.and_eq_true, decide_eq_true_eq] at hk
  obtain ⟨⟨⟨⟨⟨⟨⟨h1, h2⟩, h3⟩, h4⟩, h5⟩, h6⟩, h7⟩, h8⟩ := hk
  exact wpAnyE_first hi (Region.noSelect_spec h1) hQ h5 h6 h7 h8 fuel listed a w (headB_inv h4) (Region.free_spec hi h2) (by simpa using h3) hy hS h
theorem wpAnyE_one {k : Nat} {o : Oper} {fuel : Nat} {listed : Array Bool} {a : Act} {w : World} (hr : Region.ready md ops listed = [k]) (ho : ops[k]? = some o)
    (h : ∀ K' : Act → World → Prop, Shut (∀ a w, (k ≠ l → S w) → wpAnyE P md ops Q S l fuel (listed.setIfInBounds k true) a w → K' a w) → if Region.wanted o (yielded ops a.tmps) = true then Oper.wp P o a w K' Q else K' (a.put o.dst undef) w) :
    wpAnyE P md ops Q S l (fuel + 1) listed a w := by
  refine ⟨fun h0 => (by rw [h0] at hr; cases hr), fun i hi => ?_⟩
  rw [hr] at hi
  have hik : i = k := by simpa using hi
  subst hik
  exact wpOp_step ho (fun K' hK => h K' (fun a w hS hW => hK a w ⟨hS, hW⟩))
theorem wpAnyE_done {listed : Array Bool} {a : Act} {w : World} (hr : Region.ready md ops listed = []) (h : Q .normal a w) : ∀ fuel, wpAnyE P md ops Q S l fuel listed a w
  | 0 => ⟨hr, h⟩
  | _ + 1 => ⟨fun _ => h, by rw [hr]; simp⟩
end
def Bytes (w : World) (v : Value) (n : Nat) : Prop :=
  (∃ a c, v = .slice a 0 c ∧ n = 0) ∨ ∃ b off cap, v = .slice (some ⟨b, off, none⟩) n cap ∧ n ≤ cap ∧ cap ≤ maxLen ∧ ∀ i, i < n → ∃ x : Int, w.cell? ⟨b, off + i, none⟩ = some (.int .u8 x) ∧ 0 ≤ x ∧ x ≤ 255
theorem Bytes.by {w w1 : World} {v : Value} {n : Nat} (hb : Below w.heap.size w w1) (h : Bytes w v n) : Bytes w1 v n := by
  rcases h with h | ⟨b, off, cap, h1, h2, h3, h4⟩
  · exact .inl h
  · refine .inr ⟨b, off, cap, h1, h2, h3, fun i hi => ?_⟩
    obtain ⟨x, hx, h5⟩ := h4 i hi
    exact ⟨x, cell_by' hb hx, h5⟩
theorem big_any (v : Value) (n : Nat) (w : World) (h : Bytes w v n) :
    Calls Tryz.prog 4 #[v] w fun e w' => e = .returned (.bool (decide (4096 < n))) ∧ w = w' := by
  rcases h with ⟨a0, c0, rfl, rfl⟩ | ⟨b, off, cap, rfl, h2, h3, h4⟩
  · go_enter Tryz.func4, Tryz.ntmps4
    go_wp2
    go_ret
    exact ⟨rfl, rfl⟩
  · go_enter Tryz.func4, Tryz.ntmps4
    go_wp2
    go_ret
    exact ⟨ret_bool (by rw [Bool.eq_iff_iff]; simp; try omega), rfl⟩
/- The reference's source of numbers: l01From makes a block of its own; l01Next turns that block alone and hands back a number in range. -/
def Src1 (W0 : World) (g : Nat) (sv : Value) (n : Nat) (w : World) : Prop :=
  W0.heap.size ≤ g ∧ Below W0.heap.size W0 w ∧ Bytes W0 sv n ∧ n ≤ 5000 ∧ ∃ i x : Int, 0 ≤ i ∧ i ≤ n ∧ (0 ≤ x ∧ x ≤ 2147483646) ∧ Blk w g #[sv, .int .i64 i, .int .i64 x] 67
theorem Src1.lt {W0 w : World} {g n : Nat} {sv : Value} (h : Src1 W0 g sv n w) : g < w.heap.size := by
  obtain ⟨_, _, _, _, _, _, _, _, _, h⟩ := h; exact h.lt
theorem Src1.by {W0 w w1 : World} {g n : Nat} {sv : Value} (hb : Below w.heap.size w w1) (h : Src1 W0 g sv n w) : Src1 W0 g sv n w1 := by
  obtain ⟨h1, h2, h3, h4, i, x, h5, h6, h7, h8⟩ := h
  exact ⟨h1, h2.trans (hb.mono h2.size), h3, h4, i, x, h5, h6, h7, Blk.by hb h8⟩
theorem Src1.apart {W0 w : World} {g n b o : Nat} {sv v : Value} (h : Src1 W0 g sv n w) (hne : g ≠ b) (hb : W0.heap.size ≤ b) : Src1 W0 g sv n (w.setCell ⟨b, o, none⟩ v) := by
  obtain ⟨h1, h2, h3, h4, i, x, h5, h6, h7, h8⟩ := h
  exact ⟨h1, h2.setCell hb v, h3, h4, i, x, h5, h6, h7, h8.apart b o v hne⟩
set_option maxRecDepth 100000 in
set_option maxHeartbeats 1000000 in
theorem l01From_wide (v : Value) (n : Nat) (w : World) (h : Bytes w v n) (hn : n ≤ 5000) :
    Calls Tryz.prog 11 #[v] w fun e w' => e = .returned (.pointer (some ⟨w.heap.size, 0, none⟩)) ∧ Src1 w w.heap.size v n w' ∧ Below w.heap.size w w' := by
  have HB := Lib.hid h
  rcases h with ⟨a0, c0, rfl, rfl⟩ | ⟨b, off, cap, rfl, h2, h3, h4⟩
  · go_enter Tryz.func11, Tryz.ntmps11
    go_wp2
    go_loopw [4] (fun i wr => i = .int .i64 0 ∧ Blk wr w.heap.size #[.slice a0 0 c0, .int .i64 0, .int .i64 12345] 67 ∧ Below w.heap.size w wr) (fun _ _ => 0)
    case atStart => exact ⟨rfl, blkT, blwT⟩
    case round =>
      obtain ⟨rfl, hx, hb⟩ := hrel
      go_wp2
      go_ret
      exact ⟨rfl, ⟨Nat.le_refl _, hb, HB.out, hn, 0, 12345, by omega, by omega, by omega, hx⟩, hb⟩
  · unfold maxLen at h3
    have H4 := Lib.hid h4
    clear h4
    go_enter Tryz.func11, Tryz.ntmps11
    go_wp2
    go_loopw [4] (fun i wr => ∃ (k : Nat) (x : Int), k ≤ n ∧ i = .int .i64 k ∧ (0 ≤ x ∧ x ≤ 2147483646) ∧ Blk wr w.heap.size #[.slice (some ⟨b, off, none⟩) n cap, .int .i64 0, .int .i64 x] 67 ∧ Below w.heap.size w wr) (fun i _ => n - (intOf i).toNat)
    case atStart => exact ⟨0, 12345, Nat.zero_le _, rfl, by omega, blkT, blwT⟩
    case round =>
      obtain ⟨k, x, hk, rfl, ⟨hx0, hx1⟩, hx, hb⟩ := hrel
      by_cases hlt : k < n
      · by_cases h64 : k < 64
        · obtain ⟨y, hy, hy0, hy1⟩ := H4.out k hlt
          have hyc := cell_by' hb hy
          have hxc := hx.cell
          have hxf := hx.free
          have i1 : (0 : Int) ≤ (k : Int) := by omega
          have i2 : (k : Int) < (n : Int) := by omega
          have i3 : (k : Int) < 64 := by omega
          clear hy
          go_wp2
          go_still_tail 15, (by kernel_rfl)
          change wpList _ _ _ _ _ wr.drew
          go_wp2
          refine ⟨⟨k + 1, _, by omega, by go_num, ?_, (hx.set 2 _).drew, blwT⟩, by simp [intOf]; omega⟩
          have e1 : wrap64 (x * 31) = x * 31 := by unfold wrap64; omega
          have e2 : wrap64 (x * 31 + y) = x * 31 + y := by unfold wrap64; omega
          have e3 : IntKind.i64.wrap (x * 31) = x * 31 := by simp [IntKind.wrap, IntKind.bits, IntKind.signed]; omega
          have e4 : IntKind.i64.wrap (x * 31 + y) = x * 31 + y := by simp [IntKind.wrap, IntKind.bits, IntKind.signed]; omega
          (try simp only [e1, e2, e3, e4])
          (try rw [Int.tmod_eq_emod_of_nonneg (by omega)])
          omega
        · have i3 : ¬ (k : Int) < 64 := by omega
          have i2 : (k : Int) < (n : Int) := by omega
          go_wp2
          go_ret
          exact ⟨rfl, ⟨Nat.le_refl _, hb, HB.out, hn, 0, x, by omega, by omega, ⟨hx0, hx1⟩, hx⟩, hb⟩
      · have i2 : ¬ (k : Int) < (n : Int) := by omega
        go_wp2
        go_ret
        exact ⟨rfl, ⟨Nat.le_refl _, hb, HB.out, hn, 0, x, by omega, by omega, ⟨hx0, hx1⟩, hx⟩, hb⟩
theorem l01From_any (v : Value) (n : Nat) (w : World) (h : Bytes w v n) (hn : n ≤ 4096) :
    Calls Tryz.prog 11 #[v] w fun e w' => e = .returned (.pointer (some ⟨w.heap.size, 0, none⟩)) ∧ Src1 w w.heap.size v n w' ∧ Below w.heap.size w w' := l01From_wide v n w h (by omega)
theorem emod_bd (a m : Int) (hm : 0 < m) : 0 ≤ a % m ∧ a % m < m := ⟨Int.emod_nonneg _ (by omega), Int.emod_lt_of_pos _ hm⟩
set_option maxRecDepth 100000 in
set_option maxHeartbeats 2000000 in
theorem l01Next_any (W0 : World) (g : Nat) (sv : Value) (n : Nat) (m : Int) (w : World) (hD : Src1 W0 g sv n w) (hm' : m ≤ 256) :
    Calls Tryz.prog 32 #[.pointer (some ⟨g, 0, none⟩), .int .i64 m] w fun e w' => ∃ v : Int, e = .returned (.int .i64 v) ∧ 0 ≤ v ∧ (v < m ∨ v = 0) ∧ Src1 W0 g sv n w' ∧ Only g w w' := by
  have HD := Lib.hid hD
  obtain ⟨hg, hb, hB, hn, i, x, hi, hi', ⟨hx0, hx1⟩, hx⟩ := hD
  have hxc := hx.cell
  have hxf := hx.free
  by_cases hm1 : m ≤ 1
  · go_enter Tryz.func32, Tryz.ntmps32
    go_wp2
    go_ret
    exact ⟨0, rfl, by omega, .inr rfl, HD.out, Only.refl _ _⟩
  · have hm1' : ¬ (256 : Int) < m := by omega
    have hmp : 0 < m := by omega
    have hm0 : m ≠ 0 := by omega
    by_cases hlt : i < n
    · rcases hB with ⟨a0, c0, rfl, rfl⟩ | ⟨b, off, cap, rfl, h2, h3, h4⟩
      · omega
      have h3' := h3
      unfold maxLen at h3
      obtain ⟨y, hy, hy0, hy1⟩ := h4 i.toNat (by omega)
      obtain ⟨j, rfl⟩ := Int.eq_ofNat_of_zero_le hi
      rw [Int.toNat_natCast] at hy
      have hyc := cell_by' hb hy
      have H4 := Lib.hid h4
      clear h4 hy
      go_enter Tryz.func32, Tryz.ntmps32
      go_wp2_with fail
      go_quiet (fail)
      go_wp2_with fail
      go_quiet (fail)
      go_wp2
      go_ret
      have hmod : y.tmod m = y % m := Int.tmod_eq_emod_of_nonneg hy0
      refine ⟨y % m, (by first | rfl | rw [hmod]), (emod_bd y m hmp).1, .inl (emod_bd y m hmp).2, ?_, ?_⟩
      · refine ⟨hg, Only.below ?_ hb hg, .inr ⟨b, off, cap, rfl, h2, h3', H4.out⟩, hn, (j : Int) + 1, x, by omega, by omega, ⟨hx0, hx1⟩, ?_⟩
        · repeat (first | exact Only.refl _ _ | refine Only.drewN ?_ _ | refine Only.set ?_ _ _)
        · first | exact (hx.drewN _).set 1 _ | exact ((hx.drewN _).drewN _).set 1 _ | exact (hx.set 1 _).drewN _
      · repeat (first | exact Only.refl _ _ | refine Only.drewN ?_ _ | refine Only.set ?_ _ _)
    · obtain rfl : i = (n : Int) := by omega
      obtain ⟨a0, c0, rfl⟩ : ∃ a c, sv = .slice a n c := by
        rcases hB with ⟨a0, c0, e1, e2⟩ | ⟨b, off, cap, e1, _⟩
        · exact ⟨a0, c0, by rw [e2]; exact e1⟩
        · exact ⟨_, _, e1⟩
      have HB := Lib.hid hB
      clear hB
      have e3 : IntKind.i64.wrap (x * 48271) = x * 48271 := by simp [IntKind.wrap, IntKind.bits, IntKind.signed]; omega
      have e4 : IntKind.i64.wrap (x * 48271 + 11) = x * 48271 + 11 := by simp [IntKind.wrap, IntKind.bits, IntKind.signed]; omega
      have e5 : (x * 48271 + 11).tmod 2147483647 = (x * 48271 + 11) % 2147483647 := Int.tmod_eq_emod_of_nonneg (by omega)
      obtain ⟨z, hz⟩ : ∃ z, (x * 48271 + 11) % 2147483647 = z := ⟨_, rfl⟩
      have hzb : 0 ≤ z ∧ z ≤ 2147483646 := by omega
      go_enter Tryz.func32, Tryz.ntmps32
      go_wp2_with fail
      go_quiet (fail)
      go_wp2
      go_ret
      refine ⟨z / 7 % m, rfl, (emod_bd _ m hmp).1, .inl (emod_bd _ m hmp).2, ?_, ?_⟩
      · refine ⟨hg, Only.below ?_ hb hg, HB.out, hn, (n : Int), z, by omega, by omega, hzb, ?_⟩
        · repeat (first | exact Only.refl _ _ | refine Only.drewN ?_ _ | refine Only.set ?_ _ _)
        · exact (hx.drewN _).set 2 _
      · repeat (first | exact Only.refl _ _ | refine Only.drewN ?_ _ | refine Only.set ?_ _ _)
/- The opener of an argument that is a slice of bytes. -/
theorem addr_addY (b off i : Nat) : (⟨b, off, none⟩ : Addr).add i = ⟨b, off + i, none⟩ := by
  by_cases h : i = 0 <;> simp [Addr.add, h]
set_option maxRecDepth 100000 in
theorem opened_bytes {H : Type} {enc : TypeId × Value → H} {W : World} {base b0 : Nat} {r : Reach} {spare : Nat → Bool} {held : Bool} {v : Value} {d : DataW H} {p : List MemPlace}
    (hv : Value.okWide Tryz.prog W r b0 22 v) (h : DataW.Trod enc Tryz.prog W base spare held 22 v d p) : ∃ n, Bytes W v n := by
  obtain ⟨a0, len0, cap0, rfl⟩ := okWide_slice Tryz.underlying22 hv
  obtain ⟨fuel, hf⟩ := h
  rcases open_ints Tryz.underlying22 Tryz.underlying5 (by kernel_rfl) hf with ⟨hcs, _⟩ | ⟨x, l, c, zs, hcs, _, hl, hm, hz, _, hcell, hwz⟩
  · simp [Value.cells] at hcs
    obtain ⟨rfl, rfl, rfl⟩ := hcs
    exact ⟨0, .inl ⟨_, _, rfl, rfl⟩⟩
  · simp [Value.cells] at hcs
    obtain ⟨rfl, rfl, rfl⟩ := hcs
    by_cases h0 : len0 = 0
    · subst h0
      exact ⟨0, .inl ⟨_, _, rfl, rfl⟩⟩
    · obtain ⟨b, off, spot⟩ := x
      have hzl : len0 ≤ zs.length := by rw [hz]; split <;> omega
      have hspot : spot = none := by simpa [Addr.add] using World.cell?_spot (hcell 0 (by omega))
      subst hspot
      refine ⟨len0, .inr ⟨b, off, cap0, rfl, hl, hm, fun i hi => ⟨zs.getD i 0, by have := hcell i (by omega); rw [addr_addY] at this; exact this, ?_⟩⟩⟩
      have hmem : zs.getD i 0 ∈ zs := by
        rw [List.getD_eq_getElem?_getD, List.getElem?_eq_getElem (by omega)]
        exact List.getElem_mem _
      exact bounds_u8 (hwz _ hmem)
/- The opener of a device that came in. -/
open Go.ChangeShapes Go.WideShapes Go.ChangeAt Go.RowKit Go.Joins Go.Deep
section
variable {H : Type} {enc : TypeId × Value → H} {W : World} {base : Nat} {spare : Nat → Bool} {held : Bool}
end
/- Slices of devices: what a walk knows of one. -/
structure Dv where
  kind : Int
  pins : List Int
  wd : Int
  len : Int
def DvAt (w : World) (g o : Nat) (x : Dv) : Prop :=
  ∃ sv, w.cell? ⟨g, o, none⟩ = some (.int .i64 x.kind) ∧ w.cell? ⟨g, o + 1, none⟩ = some sv ∧ w.cell? ⟨g, o + 2, none⟩ = some (.int .i64 x.wd) ∧ w.cell? ⟨g, o + 3, none⟩ = some (.int .i64 x.len) ∧ IntSl w sv x.pins
def DvSl (w : World) (sv : Value) (xs : List Dv) : Prop :=
  (∃ a c, sv = .slice a 0 c ∧ xs = []) ∨ ∃ b off cap, sv = .slice (some ⟨b, off, none⟩) xs.length cap ∧ xs.length ≤ cap ∧ cap ≤ maxLen ∧ ∀ (i : Nat) (x : Dv), xs[i]? = some x → DvAt w b (off + i * 4) x
def Dv.ok (x : Dv) : Prop := Fits x.kind ∧ Fits x.wd ∧ Fits x.len ∧ ∀ z ∈ x.pins, Fits z
theorem DvAt.by {w w1 : World} {g o : Nat} {x : Dv} (hb : Below w.heap.size w w1) (h : DvAt w g o x) : DvAt w1 g o x := by
  obtain ⟨sv, h1, h2, h3, h4, h5⟩ := h
  exact ⟨sv, cell_by' hb h1, cell_by' hb h2, cell_by' hb h3, cell_by' hb h4, h5.by hb⟩
theorem DvSl.by {w w1 : World} {sv : Value} {xs : List Dv} (hb : Below w.heap.size w w1) (h : DvSl w sv xs) : DvSl w1 sv xs := by
  rcases h with h | ⟨b, off, cap, h1, h2, h3, h4⟩
  · exact .inl h
  · exact .inr ⟨b, off, cap, h1, h2, h3, fun i x hx => (h4 i x hx).by hb⟩
theorem DvSl.sized {w : World} {sv : Value} {xs : List Dv} (h : DvSl w sv xs) : ∃ a c, sv = .slice a xs.length c := by
  rcases h with ⟨a, c, h1, h2⟩ | ⟨b, off, cap, h1, _⟩
  · subst h2; exact ⟨a, c, h1⟩
  · exact ⟨_, _, h1⟩
/- The size of a slice of devices. -/
/- toDeviceS: a slice of devices of the call's own. -/
def Cs4 (cs : Array Value) (i : Nat) (a b c d : Value) : Prop := cs[i * 4]? = some a ∧ cs[i * 4 + 1]? = some b ∧ cs[i * 4 + 2]? = some c ∧ cs[i * 4 + 3]? = some d
def DvIn (w : World) (g : Nat) (cs : Array Value) (i : Nat) (x : Dv) : Prop :=
  ∃ gp, g < gp ∧ IBlk w gp x.pins ∧ Cs4 cs i (.int .i64 x.kind) (.slice (some ⟨gp, 0, none⟩) x.pins.length x.pins.length) (.int .i64 x.wd) (.int .i64 x.len)
theorem DvIn.by {w w1 : World} {g : Nat} {cs : Array Value} {i : Nat} {x : Dv} (hb : Below w.heap.size w w1) (h : DvIn w g cs i x) : DvIn w1 g cs i x := by
  obtain ⟨gp, h1, h2, h3⟩ := h; exact ⟨gp, h1, h2.by hb, h3⟩
theorem DvIn.apart {w : World} {g : Nat} {cs : Array Value} {i : Nat} {x : Dv} (h : DvIn w g cs i x) (b o : Nat) (v : Value) (hb : b ≤ g) : DvIn (w.setCell ⟨b, o, none⟩ v) g cs i x := by
  obtain ⟨gp, h1, h2, h3⟩ := h; exact ⟨gp, h1, h2.apart _ _ _ (by omega), h3⟩
def DvBlk (w : World) (g : Nat) (xs : List Dv) : Prop := ∃ cs : Array Value, Blk w g cs 54 ∧ cs.size = xs.length * 4 ∧ ∀ (i : Nat) (x : Dv), xs[i]? = some x → DvIn w g cs i x
theorem DvBlk.by {w w1 : World} {g : Nat} {xs : List Dv} (hb : Below w.heap.size w w1) (h : DvBlk w g xs) : DvBlk w1 g xs := by
  obtain ⟨cs, h1, h2, h3⟩ := h; exact ⟨cs, Blk.by hb h1, h2, fun i x hx => (h3 i x hx).by hb⟩
theorem DvBlk.lt {w : World} {g : Nat} {xs : List Dv} (h : DvBlk w g xs) : g < w.heap.size := by
  obtain ⟨cs, h1, h2⟩ := h; exact h1.lt
theorem DvBlk.apart {w : World} {g : Nat} {xs : List Dv} (h : DvBlk w g xs) (b o : Nat) (v : Value) (hb : b < g) : DvBlk (w.setCell ⟨b, o, none⟩ v) g xs := by
  obtain ⟨cs, h1, h2, h3⟩ := h; exact ⟨cs, h1.apart b o v (by omega), h2, fun i x hx => (h3 i x hx).apart b o v (by omega)⟩
theorem infoDev : (Tryz.prog.info? 54).map (fun i => (i.zero, i.size, i.bytes)) = some (some (.agg #[.int .i64 0, .slice none 0 0, .int .i64 0, .int .i64 0]), 4, 48) := by kernel_rfl
/- eqDeviceS over two slices that read alike. -/
theorem DvBlk.sl {w : World} {g : Nat} {xs : List Dv} (h : DvBlk w g xs) (hm : xs.length ≤ maxLen) (hp : ∀ x ∈ xs, x.pins.length ≤ 9223372036854775807) : DvSl w (.slice (some ⟨g, 0, none⟩) xs.length xs.length) xs := by
  obtain ⟨cs, h1, h2, h3⟩ := h
  refine .inr ⟨g, 0, xs.length, rfl, Nat.le_refl _, hm, fun i x hx => ?_⟩
  obtain ⟨gp, q1, q2, e1, e2, e3, e4⟩ := h3 i x hx
  have hc := h1.cell
  simp only [Nat.zero_add]
  exact ⟨_, by rw [hc]; exact e1, by rw [hc]; exact e2, by rw [hc]; exact e3, by rw [hc]; exact e4, q2.sl (hp x (List.mem_of_getElem? hx))⟩
/- Contracts of the functions of package laws over a matching. -/
def MaV (w : World) (v : Value) (x : List Int × List Int) : Prop := ∃ s1 s2, v = .agg #[s1, s2] ∧ IntSl w s1 x.1 ∧ IntSl w s2 x.2
theorem MaV.by {w w1 : World} {v : Value} {x : List Int × List Int} (hb : Below w.heap.size w w1) (h : MaV w v x) : MaV w1 v x := by
  obtain ⟨s1, s2, h1, h2, h3⟩ := h; exact ⟨s1, s2, h1, h2.by hb, h3.by hb⟩
theorem MaV.sized {w : World} {v : Value} {x : List Int × List Int} (h : MaV w v x) : ∃ a c a' c', v = .agg #[.slice a x.1.length c, .slice a' x.2.length c'] := by
  obtain ⟨s1, s2, rfl, hd, hp⟩ := h
  obtain ⟨a, c, rfl⟩ := hd.len
  obtain ⟨a', c', rfl⟩ := hp.len
  exact ⟨a, c, a', c', rfl⟩
def OwnI (w : World) (lo : Nat) (sv : Value) (zs : List Int) : Prop :=
  (∃ a c, sv = .slice a 0 c ∧ zs = []) ∨ ∃ g cap, ∃ cs : Array Value, sv = .slice (some ⟨g, 0, none⟩) zs.length cap ∧ lo ≤ g ∧ zs.length ≤ cap ∧ cap ≤ maxLen ∧ Blk w g cs 2 ∧ ∀ (i : Nat) (x : Int), zs[i]? = some x → cs[i]? = some (Value.int .i64 x)
section
variable {w w1 : World} {lo : Nat} {sv : Value} {zs : List Int}
theorem OwnI.by (hb : Below w.heap.size w w1) (h : OwnI w lo sv zs) : OwnI w1 lo sv zs := by
  rcases h with h | ⟨g, cap, cs, h1, h2, h3, h4, h5, h6⟩
  · exact .inl h
  · exact .inr ⟨g, cap, cs, h1, h2, h3, h4, Blk.by hb h5, h6⟩
theorem OwnI.sl (h : OwnI w lo sv zs) : IntSl w sv zs := by
  rcases h with h | ⟨g, cap, cs, h1, h2, h3, h4, h5, h6⟩
  · exact .inl h
  · exact .inr ⟨g, 0, cap, h1, h3, h4, fun i x hx => by rw [Nat.zero_add, h5.cell]; exact h6 i x hx⟩
theorem OwnI.len (h : OwnI w lo sv zs) : ∃ a c, sv = .slice a zs.length c := h.sl.len
theorem OwnI.alloc (h : OwnI w lo sv zs) (o : Obj) : OwnI (w.alloc o) lo sv zs := h.by ((Below.refl _ w).alloc (Nat.le_refl _) o)
theorem OwnI.drewN (h : OwnI w lo sv zs) (n : Nat) : OwnI (w.drewN n) lo sv zs := h.by (below_of_drewN _ n)
theorem OwnI.low (h : OwnI w lo sv zs) {lo' : Nat} (hl : lo' ≤ lo) : OwnI w lo' sv zs := by
  rcases h with h | ⟨g, cap, cs, h1, h2, h3⟩
  · exact .inl h
  · exact .inr ⟨g, cap, cs, h1, Nat.le_trans hl h2, h3⟩
theorem OwnI.apart (h : OwnI w lo sv zs) (b o : Nat) (v : Value) (hb : b < lo) : OwnI (w.setCell ⟨b, o, none⟩ v) lo sv zs := by
  rcases h with h | ⟨g, cap, cs, h1, h2, h3, h4, h5, h6⟩
  · exact .inl h
  · exact .inr ⟨g, cap, cs, h1, h2, h3, h4, h5.apart b o v (by omega), h6⟩
theorem src_ints (h : IntSl w sv zs) : Src Tryz.prog 1 30 sv zs.length (zs.map (Value.int .i64)) w := by
  have h1 : ∀ u ∈ zs.map (Value.int .i64), u.oneCell' = true := by
    intro u hu
    obtain ⟨_, _, rfl⟩ := List.mem_map.1 hu
    rfl
  rcases h with ⟨a, c, rfl, rfl⟩ | ⟨b, off, cap, rfl, h2, h3, h4⟩
  · cases a with
    | none => exact Src.ofNil w Tryz.underlying30 c
    | some a => exact Src.ofSlice w Tryz.underlying30 a 0 c [] rfl (by simp) (by simp)
  · refine Src.ofSlice w Tryz.underlying30 _ _ _ _ (by simp) (fun j u hu => ?_) h1
    rw [List.getElem?_map] at hu
    obtain ⟨x, hx, rfl⟩ := Option.map_eq_some_iff.1 hu
    rw [Addr.add_lit]
    exact h4 j x hx
theorem clone_run (h : IntSl w sv zs) (hn : zs.length ≤ 1048576) (b : Nat) (ty : TypeId) (hlo : lo ≤ w.heap.size) :
    ∃ v w', (Builtin.append_ #[30, 30] ty #[.slice (some ⟨b, 0, none⟩) 0 0, sv]).run Tryz.prog w = .ok v w' ∧ OwnI w' lo v zs ∧ Below w.heap.size w w' := by
  obtain ⟨i0, hi, hz0, hz1, hz2⟩ := info_parts infoI
  have hS := src_ints h
  by_cases h0 : zs = []
  · subst h0
    have hr := run_append_room_src (P := Tryz.prog) w 30 30 ty 2 i0 Tryz.underlying30 hi b 0 0 0 sv 0 [] (by rw [hz1]; exact hS) (by omega) (by simp) (by simp)
    refine ⟨_, _, hr, .inl ⟨_, _, rfl, rfl⟩, ?_⟩
    exact Below.refl _ _
  · have hl : 0 < zs.length := List.length_pos_iff.2 h0
    have hr := run_append_grow_src (P := Tryz.prog) w 30 30 ty 2 i0 _ Tryz.underlying30 hi hz0 (some ⟨b, 0, none⟩) 0 0 [] (by rw [hz1]; exact run_firstCells_some w.drew 1 0 _ 0 0 [] rfl (by simp)) sv zs.length (zs.map (Value.int .i64)) (by rw [hz1]; exact hS) (by omega) (by omega)
      (by rw [hz2]; simp only [Builtin.nextslicecap, Nat.mul_zero, Nat.zero_add]; rw [if_pos (by omega)]; omega)
    refine ⟨_, _, hr, .inr ⟨w.heap.size, grownCap w (0 + zs.length) 0 2, _, by rw [Nat.zero_add], hlo, by have := grownCap_ge w (0 + zs.length) 0 2; omega, grownCap_le_maxLen _ _ _ _ (by unfold maxLen; omega), Blk.new _ rfl, ?_⟩, ((Below.refl _ _).drew).alloc (Nat.le_refl _) _⟩
    intro i x hx
    have hi := (List.getElem?_eq_some_iff.1 hx).1
    rw [Array.getElem?_append_left (by simpa using hi)]
    simp [hx]
end
theorem step_clone {ops : Array Oper} {o : Oper} {a : Act} {w : World} {K : Act → World → Prop} {Q : Exit → Act → World → Prop} {E : Prop} (hgd : o.guard = none) (s x : Operand)
    (ho : o.op = .call { callee := .builtin .append, args := #[s, x], argTypes := #[30, 30] })
    (b : Nat) (hs : a.eval s = .slice (some ⟨b, 0, none⟩) 0 0) (sv : Value) (zs : List Int) (hx : a.eval x = sv) (h : IntSl w sv zs) (hn : zs.length ≤ 1048576) (lo : Nat) (hlo : lo ≤ w.heap.size)
    (hK : ∀ v w', OwnI w' lo v zs → Below w.heap.size w w' → K (a.put o.dst v) w') :
    if Region.wanted o (yielded ops a.tmps) = true then Oper.wp Tryz.prog o a w K Q else E := by
  have hw : Region.wanted o (yielded ops a.tmps) = true := by simp [Region.wanted, hgd]
  rw [if_pos hw]
  obtain ⟨v, w', hr, h2, h3⟩ := clone_run h hn b o.type hlo
  unfold Oper.wp execOp
  simp only [ho, resolve, invoke, builtin, Sem.run_bind, Sem.run_pure, Result.andThen_ok, List.map_toArray, List.map_cons, List.map_nil, hs, hx, hr]
  exact hK v w' h2 h3
theorem list_clone {ops : Array Oper} {rest : List Oper} {o : Oper} {a : Act} {w : World} {Q : Exit → Act → World → Prop} (hgd : o.guard = none) (s x : Operand)
    (ho : o.op = .call { callee := .builtin .append, args := #[s, x], argTypes := #[30, 30] })
    (b : Nat) (hs : a.eval s = .slice (some ⟨b, 0, none⟩) 0 0) (sv : Value) (zs : List Int) (hx : a.eval x = sv) (h : IntSl w sv zs) (hn : zs.length ≤ 1048576) (lo : Nat) (hlo : lo ≤ w.heap.size)
    (hK : ∀ v w', OwnI w' lo v zs → Below w.heap.size w w' → wpList Tryz.prog ops Q rest (a.put o.dst v) w') : wpList Tryz.prog ops Q (o :: rest) a w :=
  wpList_plain hgd fun _ hK' => by
    obtain ⟨v, w', hr, h2, h3⟩ := clone_run h hn b o.type hlo
    unfold Oper.wp execOp
    simp only [ho, resolve, invoke, builtin, Sem.run_bind, Sem.run_pure, Result.andThen_ok, List.map_toArray, List.map_cons, List.map_nil, hs, hx, hr]
    exact hK' _ _ (hK v w' h2 h3)
/- Copies of devices. -/
set_option maxRecDepth 100000 in
set_option maxHeartbeats 1000000 in
theorem own_any (kind wd len : Int) (sv : Value) (zs : List Int) (w : World) (h : IntSl w sv zs) (hn : zs.length ≤ 1048576) :
    Calls Tryz.prog 82 #[.agg #[.int .i64 kind, sv, .int .i64 wd, .int .i64 len]] w fun e w' => ∃ v, e = .returned (.agg #[.int .i64 kind, v, .int .i64 wd, .int .i64 len]) ∧ OwnI w' w.heap.size v zs ∧ Below w.heap.size w w' := by
  obtain ⟨a, c, rfl⟩ := h.len
  go_enter Tryz.func82, Tryz.ntmps82
  go_wp2_with fail
  go_region_held_law ((fun w' => (Blk w' (w.heap.size) #[.int .i64 kind, .slice a zs.length c, .int .i64 wd, .int .i64 len] 54 ∧ ∀ o, w'.cell? ⟨w.heap.size, o, none⟩ = (#[.int .i64 kind, .slice a zs.length c, .int .i64 wd, .int .i64 len] : Array Value)[o]?) ∧ Below w.heap.size w w')) (((try (obtain ⟨⟨hS0, _⟩, hSB⟩ := hHeld)); refine ⟨Blk.both ?_, ?_⟩ <;> first | ((repeat (first | (with_reducible assumption) | (with_reducible refine Blk.drewN ?_ _) | (with_reducible refine Blk.drew ?_) | ((with_reducible refine Blk.new _ ?_); focus (first | omega | (simp; done) | (simp; omega))) | (with_reducible refine Blk.past ?_ _) | ((with_reducible refine Blk.apart ?_ _ _ _ ?_); rotate_left; focus (first | omega | (simp; done) | (simp; omega))) | (with_reducible refine Blk.by (by assumption) ?_))); done) | ((repeat (first | (with_reducible exact Below.refl _ _) | (with_reducible refine below_drewN ?_ _) | (with_reducible refine Below.drew ?_) | (with_reducible refine below_al ?_ _) | (with_reducible refine below_on (by assumption) ?_) | ((with_reducible refine Below.setCell ?_ ?_ _); rotate_left; focus (first | omega | (simp; done) | (simp; omega))) | (with_reducible assumption))); done)))
    ((refine step_clone (by rfl) _ _ (by rfl) _ (by rfl) _ zs (by rfl) (h.by blwT) hn (w.heap.size + 2) (by simp; try omega) ?_; intro v w3 hO hb3; obtain ⟨a1, c1, rfl⟩ := hO.len; have k2 : Blk w3 (w.heap.size + 1) #[.int .i64 0, .slice none 0 0, .int .i64 0, .int .i64 0] 54 := blkT; have c2 := k2.cell; have f2 := k2.free; have l2 := k2.lt))
  go_wp2
  refine bodyPost_ret (v := .agg #[.int .i64 kind, .slice a1 zs.length c1, .int .i64 wd, .int .i64 len]) (by simp [results, Tryz.results82, go_sem, *]) rfl ⟨_, rfl, ?_, blwT⟩
  refine OwnI.low ?_ (show w.heap.size ≤ w.heap.size + 2 by omega)
  repeat (first | (with_reducible exact hO) | ((with_reducible refine OwnI.apart ?_ _ _ _ ?_); rotate_left; focus omega))
set_option maxRecDepth 100000 in
set_option maxHeartbeats 1000000 in
theorem clone_any (sv : Value) (zs : List Int) (w : World) (h : IntSl w sv zs) (hn : zs.length ≤ 1048576) :
    Calls Tryz.prog 16 #[sv] w fun e w' => ∃ v, e = .returned v ∧ OwnI w' w.heap.size v zs ∧ Below w.heap.size w w' := by
  obtain ⟨a, c, rfl⟩ := h.len
  have q22 : ∀ (w : World) (a : Option Addr) (n c n' c' : Nat), (binOp .eql 30 (.slice a n c) (.slice none n' c')).run Tryz.prog w = .ok (.bool a.isNone) w := fun w a n c n' c' => Lib.run_eql_slice_nil w _ _ a n c n' c' Tryz.underlying30
  cases a with
  | none =>
    have hz : zs = [] := by
      rcases h with ⟨_, _, _, h2⟩ | ⟨b, off, cap, h1, _⟩
      · exact h2
      · simp at h1
    subst hz
    go_enter Tryz.func16, Tryz.ntmps16
    go_wp2
    refine bodyPost_ret (v := .slice none 0 0) (by simp [results, Tryz.results16, go_sem, *]) rfl ⟨_, rfl, .inl ⟨_, _, rfl, rfl⟩, blwT⟩
  | some ad =>
    go_enter Tryz.func16, Tryz.ntmps16
    go_wp2_with ((refine list_clone (by rfl) _ _ (by rfl) _ (by rfl) _ zs (by rfl) (h.by blwT) hn w.heap.size (by simp; try omega) ?_; intro v w3 hO hb3; obtain ⟨a1, c1, rfl⟩ := hO.len))
    refine bodyPost_ret (v := .slice a1 zs.length c1) (by simp [results, Tryz.results16, go_sem, *]) rfl ⟨_, rfl, hO, blwT⟩
set_option maxRecDepth 100000 in
set_option maxHeartbeats 1000000 in
theorem copyDevice_any (kind wd len : Int) (sv : Value) (zs : List Int) (w : World) (h : IntSl w sv zs) (hn : zs.length ≤ 1048576) :
    Calls Tryz.prog 50 #[.agg #[.int .i64 kind, sv, .int .i64 wd, .int .i64 len]] w fun e w' => ∃ v, e = .returned (.agg #[.int .i64 kind, v, .int .i64 wd, .int .i64 len]) ∧ OwnI w' w.heap.size v zs ∧ Below w.heap.size w w' := by
  have HC := Lib.hid (fun w h => clone_any sv zs w h hn)
  have h1 := h.by (((Below.refl _ w).alloc (Nat.le_refl _) (.cells #[.int .i64 kind, sv, .int .i64 wd, .int .i64 len] 54)).alloc (by simp) (.cells #[.int .i64 0, .slice none 0 0, .int .i64 0, .int .i64 0] 54))
  obtain ⟨a, c, rfl⟩ := h.len
  clear h
  go_enter Tryz.func50, Tryz.ntmps50
  go_wp2_with fail
  refine (HC.out _ h1).mono ?_
  rintro e w1 ⟨v, rfl, hO, hb1⟩
  clear h1
  have k0 : Blk w1 w.heap.size #[.int .i64 kind, .slice a zs.length c, .int .i64 wd, .int .i64 len] 54 := blkT
  have k1 : Blk w1 (w.heap.size + 1) #[.int .i64 0, .slice none 0 0, .int .i64 0, .int .i64 0] 54 := blkT
  have c0 := k0.cell
  have f0 := k0.free
  have l0 := k0.lt
  have c1 := k1.cell
  have f1 := k1.free
  have l1 := k1.lt
  obtain ⟨a1, c1, rfl⟩ := hO.len
  simp at hO
  go_wp2
  refine bodyPost_ret (v := .agg #[.int .i64 kind, .slice a1 zs.length c1, .int .i64 wd, .int .i64 len]) (by simp [results, Tryz.results50, go_sem, *]) rfl ⟨_, rfl, ?_, blwT⟩
  refine OwnI.low ?_ (show w.heap.size ≤ w.heap.size + 2 by omega)
  repeat (first | (with_reducible exact hO) | ((with_reducible refine OwnI.apart ?_ _ _ _ ?_); rotate_left; focus omega))
/- The shape of a device. -/
def pinc (kind : Int) : Int := if kind = 0 then 3 else if kind = 1 then 3 else if kind = 2 then 2 else 0
theorem pinCount_any (kind : Int) (w : World) : Calls Tryz.prog 51 #[.int .i64 kind] w fun e w' => e = .returned (.int .i64 (pinc kind)) ∧ w = w' := by
  obtain ⟨r, hr⟩ : ∃ r, pinc kind = r := ⟨_, rfl⟩
  rw [hr]
  have HR := Lib.hid hr
  clear hr
  by_cases h0 : kind = 0
  · subst h0
    go_enter Tryz.func51, Tryz.ntmps51
    go_wp2
    go_ret
    exact ⟨ret_i64 (by rw [← HR.out]; rfl), rfl⟩
  by_cases h1 : kind = 1
  · subst h1
    go_enter Tryz.func51, Tryz.ntmps51
    go_wp2
    go_ret
    exact ⟨ret_i64 (by rw [← HR.out]; rfl), rfl⟩
  by_cases h2 : kind = 2
  · subst h2
    go_enter Tryz.func51, Tryz.ntmps51
    go_wp2
    go_ret
    exact ⟨ret_i64 (by rw [← HR.out]; rfl), rfl⟩
  go_enter Tryz.func51, Tryz.ntmps51
  go_wp2
  go_ret
  exact ⟨ret_i64 (by rw [← HR.out, pinc, if_neg h0, if_neg h1, if_neg h2]), rfl⟩
set_option maxRecDepth 100000 in
set_option maxHeartbeats 1000000 in
theorem l28Shape_any (kind wd len : Int) (a : Option Addr) (n c : Nat) (hn : n ≤ 1048576) (w : World) : Calls Tryz.prog 83 #[.agg #[.int .i64 kind, .slice a n c, .int .i64 wd, .int .i64 len]] w fun e w' => e = .returned (.bool (decide (0 < pinc kind ∧ (n : Int) = pinc kind))) ∧ Below w.heap.size w w' := by
  obtain ⟨r, hr⟩ : ∃ r, decide (0 < pinc kind ∧ (n : Int) = pinc kind) = r := ⟨_, rfl⟩
  rw [hr]
  have HR := Lib.hid hr
  clear hr
  by_cases h0 : kind = 0
  · subst h0
    go_enter Tryz.func83, Tryz.ntmps83
    go_wp2
    go_ret
    exact ⟨ret_bool (by rw [← HR.out]; simp [pinc]; rfl), blwT⟩
  by_cases h1 : kind = 1
  · subst h1
    go_enter Tryz.func83, Tryz.ntmps83
    go_wp2
    go_ret
    exact ⟨ret_bool (by rw [← HR.out]; simp [pinc]; rfl), blwT⟩
  by_cases h2 : kind = 2
  · subst h2
    go_enter Tryz.func83, Tryz.ntmps83
    go_wp2
    go_ret
    exact ⟨ret_bool (by rw [← HR.out]; simp [pinc]; rfl), blwT⟩
  go_enter Tryz.func83, Tryz.ntmps83
  go_wp2
  go_ret
  exact ⟨ret_bool (by rw [← HR.out, pinc, if_neg h0, if_neg h1, if_neg h2]; simp), blwT⟩
set_option maxRecDepth 100000 in
theorem l28First_any (kind wd len : Int) (a : Option Addr) (k c : Nat) (hn : k ≤ 1048576) (w : World) : Calls Tryz.prog 31 #[.agg #[.int .i64 kind, .slice a (k + 2) c, .int .i64 wd, .int .i64 len]] w fun e w' => e = .returned (.int .i64 k) ∧ Below w.heap.size w w' := by
  go_enter Tryz.func31, Tryz.ntmps31
  go_wp2
  go_ret
  exact ⟨ret_i64 (by omega), blwT⟩
/- The reference's NormalizeDevice. -/
def lastTwo : List Int → List Int
  | [p, q] => [min p q, max p q]
  | [g, p, q] => [g, min p q, max p q]
  | zs => zs
def normz (kind : Int) (zs : List Int) : List Int := if 0 < pinc kind ∧ (zs.length : Int) = pinc kind then lastTwo zs else zs
set_option maxRecDepth 100000 in
set_option maxHeartbeats 2000000 in
theorem specNorm_no (kind wd len : Int) (sv : Value) (zs : List Int) (w : World) (h : IntSl w sv zs) (hn : zs.length ≤ 1048576) (hno : ¬ (0 < pinc kind ∧ (zs.length : Int) = pinc kind)) :
    Calls Tryz.prog 56 #[.agg #[.int .i64 kind, sv, .int .i64 wd, .int .i64 len]] w fun e w' => ∃ v, e = .returned (.agg #[.int .i64 kind, v, .int .i64 wd, .int .i64 len]) ∧ OwnI w' w.heap.size v zs ∧ Below w.heap.size w w' := by
  have HO := Lib.hid (fun w h => own_any kind wd len sv zs w h hn)
  have h1 := h.by (((Below.refl _ w).alloc (Nat.le_refl _) (.cells #[.int .i64 kind, sv, .int .i64 wd, .int .i64 len] 54)).alloc (by simp) (.cells #[.int .i64 0, .slice none 0 0, .int .i64 0, .int .i64 0] 54))
  obtain ⟨a, c, rfl⟩ := h.len
  clear h
  have HS := Lib.hid (fun w => by have := l28Shape_any kind wd len a zs.length c hn w; rwa [decide_eq_false hno] at this)
  clear hno
  go_enter Tryz.func56, Tryz.ntmps56
  go_wp2_with fail
  refine (HO.out _ h1).mono ?_
  rintro e w1 ⟨v, rfl, hO, hb1⟩
  clear h1
  have k0 : Blk w1 w.heap.size #[.int .i64 kind, .slice a zs.length c, .int .i64 wd, .int .i64 len] 54 := blkT
  have k1 : Blk w1 (w.heap.size + 1) #[.int .i64 0, .slice none 0 0, .int .i64 0, .int .i64 0] 54 := blkT
  have hW : Below w.heap.size w w1 := blwT
  clear hb1
  have c0 := k0.cell
  have f0 := k0.free
  have l0 := k0.lt
  have c1' := k1.cell
  have f1 := k1.free
  have l1 := k1.lt
  obtain ⟨a1, c1, rfl⟩ := hO.len
  simp at hO
  go_wp2_with fail
  refine (HS.out _).mono ?_
  rintro e w2 ⟨rfl, hb2⟩
  replace hO := (hO.alloc (.cells #[.int .i64 kind, .slice a1 zs.length c1, .int .i64 wd, .int .i64 len] 54)).by hb2
  have k3 : Blk w2 w1.heap.size #[.int .i64 kind, .slice a1 zs.length c1, .int .i64 wd, .int .i64 len] 54 := blkT
  have k4 : Blk w2 w.heap.size #[.int .i64 kind, .slice a zs.length c, .int .i64 wd, .int .i64 len] 54 := blkT
  have k5 : Blk w2 (w.heap.size + 1) #[.int .i64 0, .slice none 0 0, .int .i64 0, .int .i64 0] 54 := blkT
  have hW2 : Below w.heap.size w w2 := below_on hb2 (below_al hW _)
  clear c0 f0 l0 c1' f1 k0 k1 hb2 hW
  generalize w1.heap.size = px at *
  have c0 := k4.cell
  have c1' := k5.cell
  have f1 := k5.free
  have c2 := k3.cell
  have f2 := k3.free
  go_wp2
  refine bodyPost_ret (v := .agg #[.int .i64 kind, .slice a1 zs.length c1, .int .i64 wd, .int .i64 len]) (by simp [results, Tryz.results56, go_sem, *]) rfl ⟨_, rfl, ?_, blwT⟩
  refine OwnI.low ?_ (show w.heap.size ≤ w.heap.size + 2 by omega)
  repeat (first | (with_reducible exact hO) | ((with_reducible refine OwnI.apart ?_ _ _ _ ?_); rotate_left; focus omega))
/- The reference's NormalizeDevice: the last two in order. -/
set_option maxRecDepth 100000 in
set_option maxHeartbeats 4000000 in
theorem specNorm_two (kind wd len : Int) (sv : Value) (p q : Int) (w : World) (h : IntSl w sv [p, q]) (hk : pinc kind = 2) :
    Calls Tryz.prog 56 #[.agg #[.int .i64 kind, sv, .int .i64 wd, .int .i64 len]] w fun e w' => ∃ v, e = .returned (.agg #[.int .i64 kind, v, .int .i64 wd, .int .i64 len]) ∧ OwnI w' w.heap.size v [min p q, max p q] ∧ Below w.heap.size w w' := by
  have HO := Lib.hid (fun w h => own_any kind wd len sv [p, q] w h (by simp))
  have h1 := h.by (((Below.refl _ w).alloc (Nat.le_refl _) (.cells #[.int .i64 kind, sv, .int .i64 wd, .int .i64 len] 54)).alloc (by simp) (.cells #[.int .i64 0, .slice none 0 0, .int .i64 0, .int .i64 0] 54))
  rcases h with ⟨_, _, _, h2⟩ | ⟨b, off, cap, hsv, h2, h3, h4⟩
  · simp at h2
  simp only [List.length_cons, List.length_nil, Nat.zero_add, Nat.reduceAdd] at hsv h2
  subst hsv
  have hp : w.cell? ⟨b, off, none⟩ = some (.int .i64 p) := by have := h4 0 p rfl; simpa using this
  have hq : w.cell? ⟨b, off + 1, none⟩ = some (.int .i64 q) := by have := h4 1 q rfl; simpa using this
  have hbl : b < w.heap.size := by
    rcases Nat.lt_or_ge b w.heap.size with h' | h'
    · exact h'
    · simp [World.cell?, Array.getElem?_eq_none h'] at hp
  clear h4
  have HS := Lib.hid (fun w => by have := l28Shape_any kind wd len (some ⟨b, off, none⟩) 2 cap (by omega) w; rwa [decide_eq_true (by rw [hk]; simp)] at this)
  have HF := Lib.hid (fun w => l28First_any kind wd len (some ⟨b, off, none⟩) 0 cap (by omega) w)
  clear hk
  go_enter Tryz.func56, Tryz.ntmps56
  go_wp2_with fail
  refine (HO.out _ h1).mono ?_
  rintro e w1 ⟨v, rfl, hO, hb1⟩
  clear h1
  have k0 : Blk w1 w.heap.size #[.int .i64 kind, .slice (some ⟨b, off, none⟩) 2 cap, .int .i64 wd, .int .i64 len] 54 := blkT
  have k1 : Blk w1 (w.heap.size + 1) #[.int .i64 0, .slice none 0 0, .int .i64 0, .int .i64 0] 54 := blkT
  have hW : Below w.heap.size w w1 := blwT
  clear hb1
  have c0 := k0.cell
  have f0 := k0.free
  have l0 := k0.lt
  have c1' := k1.cell
  have f1 := k1.free
  have l1 := k1.lt
  rcases hO with ⟨_, _, _, hO⟩ | ⟨g, cap1, cs, hv, hlo, hcap, hmax, hG, hG'⟩
  · simp at hO
  simp only [List.length_cons, List.length_nil, Nat.zero_add, Nat.reduceAdd] at hv hcap
  subst hv
  simp at hlo
  have hgp := hG.lt
  go_wp2_with fail
  refine (HS.out _).mono ?_
  rintro e w2 ⟨rfl, hb2⟩
  replace hG := Blk.by hb2 (hG.past (.cells #[.int .i64 kind, .slice (some ⟨g, 0, none⟩) 2 cap1, .int .i64 wd, .int .i64 len] 54))
  have k3 : Blk w2 w1.heap.size #[.int .i64 kind, .slice (some ⟨g, 0, none⟩) 2 cap1, .int .i64 wd, .int .i64 len] 54 := blkT
  have k4 : Blk w2 w.heap.size #[.int .i64 kind, .slice (some ⟨b, off, none⟩) 2 cap, .int .i64 wd, .int .i64 len] 54 := blkT
  have k5 : Blk w2 (w.heap.size + 1) #[.int .i64 0, .slice none 0 0, .int .i64 0, .int .i64 0] 54 := blkT
  have hW2 : Below w.heap.size w w2 := below_on hb2 (below_al hW _)
  clear c0 f0 l0 c1' f1 k0 k1 hb2 hW
  generalize w1.heap.size = px at *
  have c0 := k4.cell
  have c1' := k5.cell
  have f1 := k5.free
  have c2 := k3.cell
  have f2 := k3.free
  go_wp2_with fail
  refine (HF.out _).mono ?_
  rintro e w3 ⟨rfl, hb3⟩
  clear c0 c1' f1 c2 f2
  replace hG := Blk.by hb3 hG
  replace k3 := Blk.by hb3 k3
  replace k4 := Blk.by hb3 k4
  replace k5 := Blk.by hb3 k5
  replace hW2 := below_on hb3 hW2
  clear hb3
  have c0 := k4.cell
  have c1' := k5.cell
  have f1 := k5.free
  have c2 := k3.cell
  have f2 := k3.free
  have cp := cell_by' hW2 hp
  have cq := cell_by' hW2 hq
  have hG0 := hG' 0 p rfl
  have hG1 := hG' 1 q rfl
  have cg := hG.cell
  have fg := hG.free
  have wr1 : IntKind.i64.wrap 1 = 1 := by decide
  have wr2 : IntKind.i64.wrap 2 = 2 := by decide
  go_wp2_with fail
  go_region_held3 (fun w' => (Blk w' (w.heap.size) #[.int .i64 kind, .slice (some ⟨b, off, none⟩) 2 cap, .int .i64 wd, .int .i64 len] 54 ∧ ∀ o, w'.cell? ⟨w.heap.size, o, none⟩ = (#[.int .i64 kind, .slice (some ⟨b, off, none⟩) 2 cap, .int .i64 wd, .int .i64 len] : Array Value)[o]?) ∧ (Blk w' (px) #[.int .i64 kind, .slice (some ⟨g, 0, none⟩) 2 cap1, .int .i64 wd, .int .i64 len] 54 ∧ ∀ o, w'.cell? ⟨px, o, none⟩ = (#[.int .i64 kind, .slice (some ⟨g, 0, none⟩) 2 cap1, .int .i64 wd, .int .i64 len] : Array Value)[o]?) ∧ w'.cell? ⟨b, off, none⟩ = some (.int .i64 p) ∧ w'.cell? ⟨b, off + 1, none⟩ = some (.int .i64 q) ∧ Below w.heap.size w w') (((try (obtain ⟨⟨hS0, _⟩, ⟨hS1, _⟩, _, _, hSB⟩ := hHeld)); refine ⟨Blk.both ?_, Blk.both ?_, cell_by' ?_ hp, cell_by' ?_ hq, ?_⟩ <;> first | ((repeat (first | (with_reducible assumption) | (with_reducible refine Blk.drewN ?_ _) | (with_reducible refine Blk.drew ?_) | ((with_reducible refine Blk.new _ ?_); focus (first | omega | (simp; done) | (simp; omega))) | (with_reducible refine Blk.past ?_ _) | ((with_reducible refine Blk.apart ?_ _ _ _ ?_); rotate_left; focus (first | omega | (simp; done) | (simp; omega))) | (with_reducible refine Blk.by (by assumption) ?_))); done) | ((repeat (first | (with_reducible exact Below.refl _ _) | (with_reducible refine below_drewN ?_ _) | (with_reducible refine Below.drew ?_) | (with_reducible refine below_al ?_ _) | (with_reducible refine below_on (by assumption) ?_) | ((with_reducible refine Below.setCell ?_ ?_ _); rotate_left; focus (first | omega | (simp; done) | (simp; omega))) | (with_reducible assumption))); done))) (fail)
  replace hG := (hG.set 0 (.int .i64 (if q < p then q else p))).drew
  replace k3 := (k3.apart g 0 (.int .i64 (if q < p then q else p)) (by omega)).drew
  replace k4 := (k4.apart g 0 (.int .i64 (if q < p then q else p)) (by omega)).drew
  replace k5 := (k5.apart g 0 (.int .i64 (if q < p then q else p)) (by omega)).drew
  replace hW2 : Below w.heap.size w (w3.setCell ⟨g, 0, none⟩ (.int .i64 (if q < p then q else p))).drew := blwT
  clear c0 c1' f1 c2 f2 cp cq cg fg
  have hz1 : 0 < cs.size := by rcases Nat.lt_or_ge 0 cs.size with h | h; exact h; (rw [Array.getElem?_eq_none h] at hG0; cases hG0)
  have hz2 : 1 < cs.size := by rcases Nat.lt_or_ge 1 cs.size with h | h; exact h; (rw [Array.getElem?_eq_none h] at hG1; cases hG1)
  have c0 := k4.cell
  have c1' := k5.cell
  have f1 := k5.free
  have c2 := k3.cell
  have f2 := k3.free
  have cp := cell_by' hW2 hp
  have cq := cell_by' hW2 hq
  have cg := hG.cell
  have fg := hG.free
  have hG1 : (cs.setIfInBounds 0 (Value.int .i64 (if q < p then q else p)))[1]? = some (.int .i64 q) := by rw [Array.getElem?_setIfInBounds_ne (by omega)]; exact hG1
  have hMn : (cs.setIfInBounds 0 (Value.int .i64 (if q < p then q else p)))[0]? = some (.int .i64 (if q < p then q else p)) := by rw [Array.getElem?_setIfInBounds_self_of_lt hz1]
  skip
  replace hz2 : 1 < (cs.setIfInBounds 0 (Value.int .i64 (if q < p then q else p))).size := by rw [Array.size_setIfInBounds]; exact hz2
  clear hz1 hG0 hG'
  generalize hm : (if q < p then q else p) = mn at *
  generalize cs.setIfInBounds 0 (Value.int .i64 mn) = cs2 at *
  generalize (w3.setCell ⟨g, 0, none⟩ (.int .i64 mn)).drew = w4 at *
  go_wp2_with fail
  go_region_held3 (fun w' => (Blk w' (w.heap.size) #[.int .i64 kind, .slice (some ⟨b, off, none⟩) 2 cap, .int .i64 wd, .int .i64 len] 54 ∧ ∀ o, w'.cell? ⟨w.heap.size, o, none⟩ = (#[.int .i64 kind, .slice (some ⟨b, off, none⟩) 2 cap, .int .i64 wd, .int .i64 len] : Array Value)[o]?) ∧ (Blk w' (px) #[.int .i64 kind, .slice (some ⟨g, 0, none⟩) 2 cap1, .int .i64 wd, .int .i64 len] 54 ∧ ∀ o, w'.cell? ⟨px, o, none⟩ = (#[.int .i64 kind, .slice (some ⟨g, 0, none⟩) 2 cap1, .int .i64 wd, .int .i64 len] : Array Value)[o]?) ∧ w'.cell? ⟨b, off, none⟩ = some (.int .i64 p) ∧ w'.cell? ⟨b, off + 1, none⟩ = some (.int .i64 q) ∧ Below w.heap.size w w') (((try (obtain ⟨⟨hS0, _⟩, ⟨hS1, _⟩, _, _, hSB⟩ := hHeld)); refine ⟨Blk.both ?_, Blk.both ?_, cell_by' ?_ hp, cell_by' ?_ hq, ?_⟩ <;> first | ((repeat (first | (with_reducible assumption) | (with_reducible refine Blk.drewN ?_ _) | (with_reducible refine Blk.drew ?_) | ((with_reducible refine Blk.new _ ?_); focus (first | omega | (simp; done) | (simp; omega))) | (with_reducible refine Blk.past ?_ _) | ((with_reducible refine Blk.apart ?_ _ _ _ ?_); rotate_left; focus (first | omega | (simp; done) | (simp; omega))) | (with_reducible refine Blk.by (by assumption) ?_))); done) | ((repeat (first | (with_reducible exact Below.refl _ _) | (with_reducible refine below_drewN ?_ _) | (with_reducible refine Below.drew ?_) | (with_reducible refine below_al ?_ _) | (with_reducible refine below_on (by assumption) ?_) | ((with_reducible refine Below.setCell ?_ ?_ _); rotate_left; focus (first | omega | (simp; done) | (simp; omega))) | (with_reducible assumption))); done))) (fail)
  replace hG := (hG.set 1 (.int .i64 (if p < q then q else p))).drew
  replace k3 := (k3.apart g 1 (.int .i64 (if p < q then q else p)) (by omega)).drew
  replace k5 := (k5.apart g 1 (.int .i64 (if p < q then q else p)) (by omega)).drew
  replace hW2 : Below w.heap.size w (w4.setCell ⟨g, 1, none⟩ (.int .i64 (if p < q then q else p))).drew := blwT
  clear c0 c1' f1 c2 f2 cp cq cg fg k4
  have c1' := k5.cell
  have f1 := k5.free
  have c2 := k3.cell
  have f2 := k3.free
  replace hMn : (cs2.setIfInBounds 1 (Value.int .i64 (if p < q then q else p)))[0]? = some (.int .i64 mn) := by rw [Array.getElem?_setIfInBounds_ne (by omega)]; exact hMn
  have hMx : (cs2.setIfInBounds 1 (Value.int .i64 (if p < q then q else p)))[1]? = some (.int .i64 (if p < q then q else p)) := by rw [Array.getElem?_setIfInBounds_self_of_lt hz2]
  skip
  clear hG1 hz2
  generalize hm' : (if p < q then q else p) = mx at *
  generalize cs2.setIfInBounds 1 (Value.int .i64 mx) = cs3 at *
  generalize (w4.setCell ⟨g, 1, none⟩ (.int .i64 mx)).drew = w5 at *
  have HM := Lib.hid (show mn = min p q from by rw [← hm]; split <;> omega)
  have HX := Lib.hid (show mx = max p q from by rw [← hm']; split <;> omega)
  clear hm hm'
  go_wp2
  refine bodyPost_ret (v := .agg #[.int .i64 kind, .slice (some ⟨g, 0, none⟩) 2 cap1, .int .i64 wd, .int .i64 len]) (by simp [results, Tryz.results56, go_sem, *]) rfl ⟨_, rfl, ?_, blwT⟩
  refine .inr ⟨g, cap1, cs3, rfl, by omega, hcap, hmax, blkT, ?_⟩
  rw [← HM.out, ← HX.out]
  intro i x hx
  match i, hx with
  | 0, hx => obtain rfl := Option.some.inj hx; exact hMn
  | 1, hx => obtain rfl := Option.some.inj hx; exact hMx
  | (_ + 2), hx => simp at hx
set_option maxRecDepth 100000 in
set_option maxHeartbeats 4000000 in
theorem specNorm_three (kind wd len : Int) (sv : Value) (r p q : Int) (w : World) (h : IntSl w sv [r, p, q]) (hk : pinc kind = 3) :
    Calls Tryz.prog 56 #[.agg #[.int .i64 kind, sv, .int .i64 wd, .int .i64 len]] w fun e w' => ∃ v, e = .returned (.agg #[.int .i64 kind, v, .int .i64 wd, .int .i64 len]) ∧ OwnI w' w.heap.size v [r, min p q, max p q] ∧ Below w.heap.size w w' := by
  have HO := Lib.hid (fun w h => own_any kind wd len sv [r, p, q] w h (by simp))
  have h1 := h.by (((Below.refl _ w).alloc (Nat.le_refl _) (.cells #[.int .i64 kind, sv, .int .i64 wd, .int .i64 len] 54)).alloc (by simp) (.cells #[.int .i64 0, .slice none 0 0, .int .i64 0, .int .i64 0] 54))
  rcases h with ⟨_, _, _, h2⟩ | ⟨b, off, cap, hsv, h2, h3, h4⟩
  · simp at h2
  simp only [List.length_cons, List.length_nil, Nat.zero_add, Nat.reduceAdd] at hsv h2
  subst hsv
  have hp : w.cell? ⟨b, off + 1, none⟩ = some (.int .i64 p) := by have := h4 1 p rfl; simpa using this
  have hq : w.cell? ⟨b, off + 2, none⟩ = some (.int .i64 q) := by have := h4 2 q rfl; simpa using this
  have hbl : b < w.heap.size := by
    rcases Nat.lt_or_ge b w.heap.size with h' | h'
    · exact h'
    · simp [World.cell?, Array.getElem?_eq_none h'] at hp
  clear h4
  have HS := Lib.hid (fun w => by have := l28Shape_any kind wd len (some ⟨b, off, none⟩) 3 cap (by omega) w; rwa [decide_eq_true (by rw [hk]; simp)] at this)
  have HF := Lib.hid (fun w => l28First_any kind wd len (some ⟨b, off, none⟩) 1 cap (by omega) w)
  clear hk
  go_enter Tryz.func56, Tryz.ntmps56
  go_wp2_with fail
  refine (HO.out _ h1).mono ?_
  rintro e w1 ⟨v, rfl, hO, hb1⟩
  clear h1
  have k0 : Blk w1 w.heap.size #[.int .i64 kind, .slice (some ⟨b, off, none⟩) 3 cap, .int .i64 wd, .int .i64 len] 54 := blkT
  have k1 : Blk w1 (w.heap.size + 1) #[.int .i64 0, .slice none 0 0, .int .i64 0, .int .i64 0] 54 := blkT
  have hW : Below w.heap.size w w1 := blwT
  clear hb1
  have c0 := k0.cell
  have f0 := k0.free
  have l0 := k0.lt
  have c1' := k1.cell
  have f1 := k1.free
  have l1 := k1.lt
  rcases hO with ⟨_, _, _, hO⟩ | ⟨g, cap1, cs, hv, hlo, hcap, hmax, hG, hG'⟩
  · simp at hO
  simp only [List.length_cons, List.length_nil, Nat.zero_add, Nat.reduceAdd] at hv hcap
  subst hv
  simp at hlo
  have hgp := hG.lt
  go_wp2_with fail
  refine (HS.out _).mono ?_
  rintro e w2 ⟨rfl, hb2⟩
  replace hG := Blk.by hb2 (hG.past (.cells #[.int .i64 kind, .slice (some ⟨g, 0, none⟩) 3 cap1, .int .i64 wd, .int .i64 len] 54))
  have k3 : Blk w2 w1.heap.size #[.int .i64 kind, .slice (some ⟨g, 0, none⟩) 3 cap1, .int .i64 wd, .int .i64 len] 54 := blkT
  have k4 : Blk w2 w.heap.size #[.int .i64 kind, .slice (some ⟨b, off, none⟩) 3 cap, .int .i64 wd, .int .i64 len] 54 := blkT
  have k5 : Blk w2 (w.heap.size + 1) #[.int .i64 0, .slice none 0 0, .int .i64 0, .int .i64 0] 54 := blkT
  have hW2 : Below w.heap.size w w2 := below_on hb2 (below_al hW _)
  clear c0 f0 l0 c1' f1 k0 k1 hb2 hW
  generalize w1.heap.size = px at *
  have c0 := k4.cell
  have c1' := k5.cell
  have f1 := k5.free
  have c2 := k3.cell
  have f2 := k3.free
  go_wp2_with fail
  refine (HF.out _).mono ?_
  rintro e w3 ⟨rfl, hb3⟩
  clear c0 c1' f1 c2 f2
  replace hG := Blk.by hb3 hG
  replace k3 := Blk.by hb3 k3
  replace k4 := Blk.by hb3 k4
  replace k5 := Blk.by hb3 k5
  replace hW2 := below_on hb3 hW2
  clear hb3
  have c0 := k4.cell
  have c1' := k5.cell
  have f1 := k5.free
  have c2 := k3.cell
  have f2 := k3.free
  have cp := cell_by' hW2 hp
  have cq := cell_by' hW2 hq
  have hG0 := hG' 1 p rfl
  have hG1 := hG' 2 q rfl
  have cg := hG.cell
  have fg := hG.free
  have wr1 : IntKind.i64.wrap 1 = 1 := by decide
  have wr2 : IntKind.i64.wrap 2 = 2 := by decide
  go_wp2_with fail
  go_region_held3 (fun w' => (Blk w' (w.heap.size) #[.int .i64 kind, .slice (some ⟨b, off, none⟩) 3 cap, .int .i64 wd, .int .i64 len] 54 ∧ ∀ o, w'.cell? ⟨w.heap.size, o, none⟩ = (#[.int .i64 kind, .slice (some ⟨b, off, none⟩) 3 cap, .int .i64 wd, .int .i64 len] : Array Value)[o]?) ∧ (Blk w' (px) #[.int .i64 kind, .slice (some ⟨g, 0, none⟩) 3 cap1, .int .i64 wd, .int .i64 len] 54 ∧ ∀ o, w'.cell? ⟨px, o, none⟩ = (#[.int .i64 kind, .slice (some ⟨g, 0, none⟩) 3 cap1, .int .i64 wd, .int .i64 len] : Array Value)[o]?) ∧ w'.cell? ⟨b, off + 1, none⟩ = some (.int .i64 p) ∧ w'.cell? ⟨b, off + 2, none⟩ = some (.int .i64 q) ∧ Below w.heap.size w w') (((try (obtain ⟨⟨hS0, _⟩, ⟨hS1, _⟩, _, _, hSB⟩ := hHeld)); refine ⟨Blk.both ?_, Blk.both ?_, cell_by' ?_ hp, cell_by' ?_ hq, ?_⟩ <;> first | ((repeat (first | (with_reducible assumption) | (with_reducible refine Blk.drewN ?_ _) | (with_reducible refine Blk.drew ?_) | ((with_reducible refine Blk.new _ ?_); focus (first | omega | (simp; done) | (simp; omega))) | (with_reducible refine Blk.past ?_ _) | ((with_reducible refine Blk.apart ?_ _ _ _ ?_); rotate_left; focus (first | omega | (simp; done) | (simp; omega))) | (with_reducible refine Blk.by (by assumption) ?_))); done) | ((repeat (first | (with_reducible exact Below.refl _ _) | (with_reducible refine below_drewN ?_ _) | (with_reducible refine Below.drew ?_) | (with_reducible refine below_al ?_ _) | (with_reducible refine below_on (by assumption) ?_) | ((with_reducible refine Below.setCell ?_ ?_ _); rotate_left; focus (first | omega | (simp; done) | (simp; omega))) | (with_reducible assumption))); done))) (fail)
  replace hG := (hG.set 1 (.int .i64 (if q < p then q else p))).drew
  replace k3 := (k3.apart g 1 (.int .i64 (if q < p then q else p)) (by omega)).drew
  replace k4 := (k4.apart g 1 (.int .i64 (if q < p then q else p)) (by omega)).drew
  replace k5 := (k5.apart g 1 (.int .i64 (if q < p then q else p)) (by omega)).drew
  replace hW2 : Below w.heap.size w (w3.setCell ⟨g, 1, none⟩ (.int .i64 (if q < p then q else p))).drew := blwT
  clear c0 c1' f1 c2 f2 cp cq cg fg
  have hz1 : 1 < cs.size := by rcases Nat.lt_or_ge 1 cs.size with h | h; exact h; (rw [Array.getElem?_eq_none h] at hG0; cases hG0)
  have hz2 : 2 < cs.size := by rcases Nat.lt_or_ge 2 cs.size with h | h; exact h; (rw [Array.getElem?_eq_none h] at hG1; cases hG1)
  have c0 := k4.cell
  have c1' := k5.cell
  have f1 := k5.free
  have c2 := k3.cell
  have f2 := k3.free
  have cp := cell_by' hW2 hp
  have cq := cell_by' hW2 hq
  have cg := hG.cell
  have fg := hG.free
  have hG1 : (cs.setIfInBounds 1 (Value.int .i64 (if q < p then q else p)))[2]? = some (.int .i64 q) := by rw [Array.getElem?_setIfInBounds_ne (by omega)]; exact hG1
  have hMn : (cs.setIfInBounds 1 (Value.int .i64 (if q < p then q else p)))[1]? = some (.int .i64 (if q < p then q else p)) := by rw [Array.getElem?_setIfInBounds_self_of_lt hz1]
  have hR : (cs.setIfInBounds 1 (Value.int .i64 (if q < p then q else p)))[0]? = some (.int .i64 r) := by rw [Array.getElem?_setIfInBounds_ne (by omega)]; exact hG' 0 r rfl
  replace hz2 : 2 < (cs.setIfInBounds 1 (Value.int .i64 (if q < p then q else p))).size := by rw [Array.size_setIfInBounds]; exact hz2
  clear hz1 hG0 hG'
  generalize hm : (if q < p then q else p) = mn at *
  generalize cs.setIfInBounds 1 (Value.int .i64 mn) = cs2 at *
  generalize (w3.setCell ⟨g, 1, none⟩ (.int .i64 mn)).drew = w4 at *
  go_wp2_with fail
  go_region_held3 (fun w' => (Blk w' (w.heap.size) #[.int .i64 kind, .slice (some ⟨b, off, none⟩) 3 cap, .int .i64 wd, .int .i64 len] 54 ∧ ∀ o, w'.cell? ⟨w.heap.size, o, none⟩ = (#[.int .i64 kind, .slice (some ⟨b, off, none⟩) 3 cap, .int .i64 wd, .int .i64 len] : Array Value)[o]?) ∧ (Blk w' (px) #[.int .i64 kind, .slice (some ⟨g, 0, none⟩) 3 cap1, .int .i64 wd, .int .i64 len] 54 ∧ ∀ o, w'.cell? ⟨px, o, none⟩ = (#[.int .i64 kind, .slice (some ⟨g, 0, none⟩) 3 cap1, .int .i64 wd, .int .i64 len] : Array Value)[o]?) ∧ w'.cell? ⟨b, off + 1, none⟩ = some (.int .i64 p) ∧ w'.cell? ⟨b, off + 2, none⟩ = some (.int .i64 q) ∧ Below w.heap.size w w') (((try (obtain ⟨⟨hS0, _⟩, ⟨hS1, _⟩, _, _, hSB⟩ := hHeld)); refine ⟨Blk.both ?_, Blk.both ?_, cell_by' ?_ hp, cell_by' ?_ hq, ?_⟩ <;> first | ((repeat (first | (with_reducible assumption) | (with_reducible refine Blk.drewN ?_ _) | (with_reducible refine Blk.drew ?_) | ((with_reducible refine Blk.new _ ?_); focus (first | omega | (simp; done) | (simp; omega))) | (with_reducible refine Blk.past ?_ _) | ((with_reducible refine Blk.apart ?_ _ _ _ ?_); rotate_left; focus (first | omega | (simp; done) | (simp; omega))) | (with_reducible refine Blk.by (by assumption) ?_))); done) | ((repeat (first | (with_reducible exact Below.refl _ _) | (with_reducible refine below_drewN ?_ _) | (with_reducible refine Below.drew ?_) | (with_reducible refine below_al ?_ _) | (with_reducible refine below_on (by assumption) ?_) | ((with_reducible refine Below.setCell ?_ ?_ _); rotate_left; focus (first | omega | (simp; done) | (simp; omega))) | (with_reducible assumption))); done))) (fail)
  replace hG := (hG.set 2 (.int .i64 (if p < q then q else p))).drew
  replace k3 := (k3.apart g 2 (.int .i64 (if p < q then q else p)) (by omega)).drew
  replace k5 := (k5.apart g 2 (.int .i64 (if p < q then q else p)) (by omega)).drew
  replace hW2 : Below w.heap.size w (w4.setCell ⟨g, 2, none⟩ (.int .i64 (if p < q then q else p))).drew := blwT
  clear c0 c1' f1 c2 f2 cp cq cg fg k4
  have c1' := k5.cell
  have f1 := k5.free
  have c2 := k3.cell
  have f2 := k3.free
  replace hMn : (cs2.setIfInBounds 2 (Value.int .i64 (if p < q then q else p)))[1]? = some (.int .i64 mn) := by rw [Array.getElem?_setIfInBounds_ne (by omega)]; exact hMn
  have hMx : (cs2.setIfInBounds 2 (Value.int .i64 (if p < q then q else p)))[2]? = some (.int .i64 (if p < q then q else p)) := by rw [Array.getElem?_setIfInBounds_self_of_lt hz2]
  replace hR : (cs2.setIfInBounds 2 (Value.int .i64 (if p < q then q else p)))[0]? = some (.int .i64 r) := by rw [Array.getElem?_setIfInBounds_ne (by omega)]; exact hR
  clear hG1 hz2
  generalize hm' : (if p < q then q else p) = mx at *
  generalize cs2.setIfInBounds 2 (Value.int .i64 mx) = cs3 at *
  generalize (w4.setCell ⟨g, 2, none⟩ (.int .i64 mx)).drew = w5 at *
  have HM := Lib.hid (show mn = min p q from by rw [← hm]; split <;> omega)
  have HX := Lib.hid (show mx = max p q from by rw [← hm']; split <;> omega)
  clear hm hm'
  go_wp2
  refine bodyPost_ret (v := .agg #[.int .i64 kind, .slice (some ⟨g, 0, none⟩) 3 cap1, .int .i64 wd, .int .i64 len]) (by simp [results, Tryz.results56, go_sem, *]) rfl ⟨_, rfl, ?_, blwT⟩
  refine .inr ⟨g, cap1, cs3, rfl, by omega, hcap, hmax, blkT, ?_⟩
  rw [← HM.out, ← HX.out]
  intro i x hx
  match i, hx with
  | 0, hx => obtain rfl := Option.some.inj hx; exact hR
  | 1, hx => obtain rfl := Option.some.inj hx; exact hMn
  | 2, hx => obtain rfl := Option.some.inj hx; exact hMx
  | (_ + 3), hx => simp at hx
structure Within (lo hi : Nat) (w w' : World) : Prop where
  os : w'.os = w.os
  tape : w'.tape = w.tape
  output : w'.output = w.output
  size : w.heap.size ≤ w'.heap.size
  block : ∀ k, k < w.heap.size → (k < lo ∨ hi ≤ k) → w'.heap[k]? = w.heap[k]?
section
variable {lo hi : Nat} {a w w' : World}
theorem Within.refl (lo hi : Nat) (w : World) : Within lo hi w w := ⟨rfl, rfl, rfl, Nat.le_refl _, fun _ _ _ => rfl⟩
theorem Within.set (h : Within lo hi a w) (g o : Nat) (v : Value) (h1 : lo ≤ g) (h2 : g < hi) : Within lo hi a (w.setCell ⟨g, o, none⟩ v) :=
  ⟨h.os, h.tape, h.output, by simp [World.setCell]; exact h.size, fun k hk hk' => (Below.heap_setCell w ⟨g, o, none⟩ v k (by simp; omega)).trans (h.block k hk hk')⟩
theorem Within.new (h : Within lo hi a w) (g o : Nat) (v : Value) (h1 : a.heap.size ≤ g) : Within lo hi a (w.setCell ⟨g, o, none⟩ v) :=
  ⟨h.os, h.tape, h.output, by simp [World.setCell]; exact h.size, fun k hk hk' => (Below.heap_setCell w ⟨g, o, none⟩ v k (by simp; omega)).trans (h.block k hk hk')⟩
theorem Within.alloc (h : Within lo hi a w) (o : Obj) : Within lo hi a (w.alloc o) :=
  ⟨h.os, h.tape, h.output, by have := h.size; simp; omega, fun k hk hk' => (Below.heap_alloc w o k (by have := h.size; omega)).trans (h.block k hk hk')⟩
theorem Within.drewN (h : Within lo hi a w) (n : Nat) : Within lo hi a (w.drewN n) := ⟨h.os, h.tape, h.output, h.size, h.block⟩
theorem Within.on (h : Within lo hi a w) (h' : Within lo hi w w') : Within lo hi a w' :=
  ⟨h'.os.trans h.os, h'.tape.trans h.tape, h'.output.trans h.output, Nat.le_trans h.size h'.size, fun k hk hk' => (h'.block k (Nat.lt_of_lt_of_le hk h.size) hk').trans (h.block k hk hk')⟩
theorem Within.blk {f : Nat} {cs : Array Value} {T : TypeId} (h : Within lo hi w w') (hf : Blk w f cs T) (hne : f < lo ∨ hi ≤ f) : Blk w' f cs T := (h.block f hf.lt hne).trans hf
theorem Within.below (h : Within lo hi w w') (hb : Below a.heap.size a w) (hl : a.heap.size ≤ lo) : Below a.heap.size a w' :=
  hb.trans ⟨h.os, h.tape, h.output, h.size, fun k hk => h.block k (Nat.lt_of_lt_of_le hk hb.size) (.inl (by omega))⟩
def OwnR (w : World) (lo hi : Nat) (sv : Value) (zs : List Int) : Prop :=
  (∃ a c, sv = .slice a 0 c ∧ zs = []) ∨ ∃ g cap, ∃ cs : Array Value, sv = .slice (some ⟨g, 0, none⟩) zs.length cap ∧ lo ≤ g ∧ g < hi ∧ zs.length ≤ cap ∧ cap ≤ maxLen ∧ Blk w g cs 2 ∧ ∀ (i : Nat) (x : Int), zs[i]? = some x → cs[i]? = some (Value.int .i64 x)
variable {sv : Value} {zs : List Int}
theorem OwnI.r (h : OwnI w lo sv zs) : OwnR w lo w.heap.size sv zs := by
  rcases h with h | ⟨g, cap, cs, h1, h2, h3, h4, h5, h6⟩
  · exact .inl h
  · exact .inr ⟨g, cap, cs, h1, h2, h5.lt, h3, h4, h5, h6⟩
theorem IBlk.r {g : Nat} (h : IBlk w g zs) (hm : zs.length ≤ 9223372036854775807) : OwnR w g (g + 1) (.slice (some ⟨g, 0, none⟩) zs.length zs.length) zs := by
  obtain ⟨cs, h1, h2, h3⟩ := h
  exact .inr ⟨g, _, cs, rfl, Nat.le_refl _, Nat.lt_succ_self _, Nat.le_refl _, by unfold maxLen; omega, h1, h3⟩
theorem OwnR.by (hb : Below w.heap.size w w') (h : OwnR w lo hi sv zs) : OwnR w' lo hi sv zs := by
  rcases h with h | ⟨g, cap, cs, h1, h2, h2', h3, h4, h5, h6⟩
  · exact .inl h
  · exact .inr ⟨g, cap, cs, h1, h2, h2', h3, h4, Blk.by hb h5, h6⟩
theorem OwnR.past {lo' hi' : Nat} (hb : Within lo' hi' w w') (h : OwnR w lo hi sv zs) (hd : hi ≤ lo' ∨ hi' ≤ lo) : OwnR w' lo hi sv zs := by
  rcases h with h | ⟨g, cap, cs, h1, h2, h2', h3, h4, h5, h6⟩
  · exact .inl h
  · exact .inr ⟨g, cap, cs, h1, h2, h2', h3, h4, hb.blk h5 (by omega), h6⟩
theorem OwnR.sl (h : OwnR w lo hi sv zs) : IntSl w sv zs := by
  rcases h with h | ⟨g, cap, cs, h1, h2, h2', h3, h4, h5, h6⟩
  · exact .inl h
  · exact .inr ⟨g, 0, cap, h1, h3, h4, fun i x hx => by rw [Nat.zero_add, h5.cell]; exact h6 i x hx⟩
end
/- The reference's NormalizeDevice: one contract. -/
theorem pinc_cases (kind : Int) (h : 0 < pinc kind) : pinc kind = 3 ∨ pinc kind = 2 := by
  unfold pinc at *
  (repeat' split) <;> simp_all
theorem length_normz (kind : Int) (zs : List Int) : (normz kind zs).length = zs.length := by
  unfold normz
  split
  · unfold lastTwo; split <;> simp
  · rfl
theorem normz_no {kind : Int} {zs : List Int} (h : ¬ (0 < pinc kind ∧ (zs.length : Int) = pinc kind)) : normz kind zs = zs := by
  unfold normz; rw [if_neg h]
theorem normz_yes {kind : Int} {zs : List Int} (h : 0 < pinc kind ∧ (zs.length : Int) = pinc kind) : (∃ p q, zs = [p, q] ∧ pinc kind = 2 ∧ normz kind zs = [min p q, max p q]) ∨ ∃ r p q, zs = [r, p, q] ∧ pinc kind = 3 ∧ normz kind zs = [r, min p q, max p q] := by
  have e : normz kind zs = lastTwo zs := by unfold normz; rw [if_pos h]
  rw [e]
  rcases pinc_cases kind h.1 with h3 | h2
  · right
    rw [h3] at h
    match zs, h with
    | [r, p, q], _ => exact ⟨r, p, q, rfl, h3, rfl⟩
    | [], h => simp at h
    | [_], h => simp at h
    | [_, _], h => simp at h
    | _ :: _ :: _ :: _ :: _, h => simp at h; omega
  · left
    rw [h2] at h
    match zs, h with
    | [p, q], _ => exact ⟨p, q, rfl, h2, rfl⟩
    | [], h => simp at h
    | [_], h => simp at h
    | _ :: _ :: _ :: _, h => simp at h; omega
theorem specNorm_any (kind wd len : Int) (sv : Value) (zs : List Int) (w : World) (h : IntSl w sv zs) (hn : zs.length ≤ 1048576) :
    Calls Tryz.prog 56 #[.agg #[.int .i64 kind, sv, .int .i64 wd, .int .i64 len]] w fun e w' => ∃ v, e = .returned (.agg #[.int .i64 kind, v, .int .i64 wd, .int .i64 len]) ∧ OwnI w' w.heap.size v (normz kind zs) ∧ Below w.heap.size w w' := by
  by_cases hs : 0 < pinc kind ∧ (zs.length : Int) = pinc kind
  · rcases normz_yes hs with ⟨p, q, rfl, hk, e⟩ | ⟨r, p, q, rfl, hk, e⟩
    · rw [e]; exact specNorm_two kind wd len sv p q w h hk
    · rw [e]; exact specNorm_three kind wd len sv r p q w h hk
  · rw [normz_no hs]; exact specNorm_no kind wd len sv zs w h hn hs
structure Pt where
  name : ByteArray
  net : Int
def PtAt (w : World) (g o : Nat) (x : Pt) : Prop :=
  w.cell? ⟨g, o, none⟩ = some (.string x.name) ∧ w.cell? ⟨g, o + 1, none⟩ = some (.int .i64 x.net)
def PtSl (w : World) (sv : Value) (xs : List Pt) : Prop :=
  (∃ a c, sv = .slice a 0 c ∧ xs = []) ∨ ∃ b off cap, sv = .slice (some ⟨b, off, none⟩) xs.length cap ∧ xs.length ≤ cap ∧ cap ≤ maxLen ∧ ∀ (i : Nat) (x : Pt), xs[i]? = some x → PtAt w b (off + i * 2) x
theorem PtAt.by {w w1 : World} {g o : Nat} {x : Pt} (hb : Below w.heap.size w w1) (h : PtAt w g o x) : PtAt w1 g o x := ⟨cell_by' hb h.1, cell_by' hb h.2⟩
theorem PtSl.by {w w1 : World} {sv : Value} {xs : List Pt} (hb : Below w.heap.size w w1) (h : PtSl w sv xs) : PtSl w1 sv xs := by
  rcases h with h | ⟨b, off, cap, h1, h2, h3, h4⟩
  · exact .inl h
  · exact .inr ⟨b, off, cap, h1, h2, h3, fun i x hx => (h4 i x hx).by hb⟩
theorem PtSl.sized {w : World} {sv : Value} {xs : List Pt} (h : PtSl w sv xs) : ∃ a c, sv = .slice a xs.length c := by
  rcases h with ⟨a, c, h1, h2⟩ | ⟨b, off, cap, h1, _⟩
  · subst h2; exact ⟨a, c, h1⟩
  · exact ⟨_, _, h1⟩
/- Contracts of the functions of package laws over a port. -/
/- The size of a slice of ports. -/
def Pt.ok (x : Pt) : Prop := x.name.size ≤ 9223372036854775807 ∧ Fits x.net
/- toPortS and eqPortS. -/
def Cs2 (cs : Array Value) (i : Nat) (a b : Value) : Prop := cs[i * 2]? = some a ∧ cs[i * 2 + 1]? = some b
def PtBlk (w : World) (g : Nat) (xs : List Pt) : Prop := ∃ cs : Array Value, Blk w g cs 52 ∧ cs.size = xs.length * 2 ∧ ∀ (i : Nat) (x : Pt), xs[i]? = some x → Cs2 cs i (.string x.name) (.int .i64 x.net)
theorem PtBlk.by {w w1 : World} {g : Nat} {xs : List Pt} (hb : Below w.heap.size w w1) (h : PtBlk w g xs) : PtBlk w1 g xs := by
  obtain ⟨cs, h1, h2⟩ := h; exact ⟨cs, Blk.by hb h1, h2⟩
theorem PtBlk.apart {w : World} {g : Nat} {xs : List Pt} (h : PtBlk w g xs) (b o : Nat) (v : Value) (hb : g ≠ b) : PtBlk (w.setCell ⟨b, o, none⟩ v) g xs := by
  obtain ⟨cs, h1, h2⟩ := h; exact ⟨cs, h1.apart b o v hb, h2⟩
theorem PtBlk.sl {w : World} {g : Nat} {xs : List Pt} (h : PtBlk w g xs) (hm : xs.length ≤ maxLen) : PtSl w (.slice (some ⟨g, 0, none⟩) xs.length xs.length) xs := by
  obtain ⟨cs, h1, h2, h3⟩ := h
  refine .inr ⟨g, 0, xs.length, rfl, Nat.le_refl _, hm, fun i x hx => ?_⟩
  obtain ⟨e1, e2⟩ := h3 i x hx
  have hc := h1.cell
  simp only [Nat.zero_add]
  exact ⟨by rw [hc]; exact e1, by rw [hc]; exact e2⟩
theorem infoPt : (Tryz.prog.info? 52).map (fun i => (i.zero, i.size, i.bytes)) = some (some (.agg #[.string ByteArray.empty, .int .i64 0]), 2, 24) := by kernel_rfl
/- toPortS and eqPortS: the walks. -/
/- Contracts of the functions of package laws over netlists. -/
/- toNetlist and eqNetlist. -/
theorem DvBlk.past {w : World} {g : Nat} {xs : List Dv} (h : DvBlk w g xs) (o : Obj) : DvBlk (w.alloc o) g xs := h.by ((Below.refl _ w).alloc (Nat.le_refl _) o)
theorem DvBlk.off {w : World} {g : Nat} {xs : List Dv} (h : DvBlk w g xs) (b o : Nat) (v : Value) (hb : b < g) : DvBlk (w.setCell ⟨b, o, none⟩ v) g xs := h.apart b o v hb
/- eqNetlist over two netlists that read alike. -/
structure Nl where
  nets : Int
  ds : List Dv
  ps : List Pt
def NlV (w : World) (v : Value) (x : Nl) : Prop := ∃ s1 s2, v = .agg #[.int .i64 x.nets, s1, s2] ∧ DvSl w s1 x.ds ∧ PtSl w s2 x.ps
theorem NlV.by {w w1 : World} {v : Value} {x : Nl} (hb : Below w.heap.size w w1) (h : NlV w v x) : NlV w1 v x := by
  obtain ⟨s1, s2, h1, h2, h3⟩ := h; exact ⟨s1, s2, h1, h2.by hb, h3.by hb⟩
/- The opener of a netlist that came in. -/
section
variable {H : Type} {enc : TypeId × Value → H} {W : World} {base : Nat} {spare : Nat → Bool} {held : Bool}
end
/- Small laws on netlists for the walks of the statements. -/
theorem NlV.sized {w : World} {v : Value} {x : Nl} (h : NlV w v x) : ∃ a c a' c', v = .agg #[.int .i64 x.nets, .slice a x.ds.length c, .slice a' x.ps.length c'] := by
  obtain ⟨s1, s2, rfl, hd, hp⟩ := h
  obtain ⟨a, c, rfl⟩ := hd.sized
  obtain ⟨a', c', rfl⟩ := hp.sized
  exact ⟨a, c, a', c', rfl⟩
/- Slices of devices and of ports in memory of the call's own. -/
def OwnDs (w : World) (lo hi : Nat) (sv : Value) (ds : List Dv) : Prop :=
  (∃ a c, sv = .slice a 0 c ∧ ds = []) ∨ ∃ (g cap : Nat) (cs : Array Value) (f : Nat → Nat), sv = .slice (some ⟨g, 0, none⟩) ds.length cap ∧ (lo ≤ g ∧ g < hi) ∧ ds.length ≤ cap ∧ cap ≤ maxLen ∧ Blk w g cs 54 ∧
    (∀ (i : Nat) (x : Dv), ds[i]? = some x → (∃ pv, Cs4 cs i (.int .i64 x.kind) pv (.int .i64 x.wd) (.int .i64 x.len) ∧ OwnR w (f i) (f i + 1) pv x.pins) ∧ (lo ≤ f i ∧ f i < hi ∧ f i ≠ g)) ∧ (∀ i j, i < ds.length → j < ds.length → i ≠ j → f i ≠ f j)
def OwnPs (w : World) (lo hi : Nat) (sv : Value) (ps : List Pt) : Prop :=
  (∃ a c, sv = .slice a 0 c ∧ ps = []) ∨ ∃ (g cap : Nat) (cs : Array Value), sv = .slice (some ⟨g, 0, none⟩) ps.length cap ∧ (lo ≤ g ∧ g < hi) ∧ ps.length ≤ cap ∧ cap ≤ maxLen ∧ Blk w g cs 52 ∧
    (∀ (i : Nat) (x : Pt), ps[i]? = some x → Cs2 cs i (.string x.name) (.int .i64 x.net))
section
variable {w w' : World} {lo hi lo' hi' : Nat} {sv : Value} {ds : List Dv} {ps : List Pt}
theorem OwnDs.by (hb : Below w.heap.size w w') (h : OwnDs w lo hi sv ds) : OwnDs w' lo hi sv ds := by
  rcases h with h | ⟨g, cap, cs, f, h1, h2, h3, h4, h5, h6, h7⟩
  · exact .inl h
  · refine .inr ⟨g, cap, cs, f, h1, h2, h3, h4, Blk.by hb h5, fun i x hx => ?_, h7⟩
    obtain ⟨⟨pv, a, b⟩, c⟩ := h6 i x hx
    exact ⟨⟨pv, a, OwnR.by hb b⟩, c⟩
theorem OwnPs.by (hb : Below w.heap.size w w') (h : OwnPs w lo hi sv ps) : OwnPs w' lo hi sv ps := by
  rcases h with h | ⟨g, cap, cs, h1, h2, h3, h4, h5, h6⟩
  · exact .inl h
  · exact .inr ⟨g, cap, cs, h1, h2, h3, h4, Blk.by hb h5, h6⟩
theorem OwnDs.past (hb : Within lo' hi' w w') (h : OwnDs w lo hi sv ds) (hd : hi ≤ lo' ∨ hi' ≤ lo) : OwnDs w' lo hi sv ds := by
  rcases h with h | ⟨g, cap, cs, f, h1, h2, h3, h4, h5, h6, h7⟩
  · exact .inl h
  · refine .inr ⟨g, cap, cs, f, h1, h2, h3, h4, hb.blk h5 (by omega), fun i x hx => ?_, h7⟩
    obtain ⟨⟨pv, a, b⟩, c⟩ := h6 i x hx
    exact ⟨⟨pv, a, OwnR.past hb b (by omega)⟩, c⟩
theorem OwnPs.past (hb : Within lo' hi' w w') (h : OwnPs w lo hi sv ps) (hd : hi ≤ lo' ∨ hi' ≤ lo) : OwnPs w' lo hi sv ps := by
  rcases h with h | ⟨g, cap, cs, h1, h2, h3, h4, h5, h6⟩
  · exact .inl h
  · exact .inr ⟨g, cap, cs, h1, h2, h3, h4, hb.blk h5 (by omega), h6⟩
theorem OwnDs.wide (h : OwnDs w lo hi sv ds) (h1 : lo' ≤ lo) (h2 : hi ≤ hi') : OwnDs w lo' hi' sv ds := by
  rcases h with h | ⟨g, cap, cs, f, e1, e2, e3, e4, e5, e6, e7⟩
  · exact .inl h
  · refine .inr ⟨g, cap, cs, f, e1, by omega, e3, e4, e5, fun i x hx => ?_, e7⟩
    obtain ⟨a, b⟩ := e6 i x hx
    exact ⟨a, by omega⟩
theorem OwnPs.wide (h : OwnPs w lo hi sv ps) (h1 : lo' ≤ lo) (h2 : hi ≤ hi') : OwnPs w lo' hi' sv ps := by
  rcases h with h | ⟨g, cap, cs, e1, e2, e3, e4, e5, e6⟩
  · exact .inl h
  · exact .inr ⟨g, cap, cs, e1, by omega, e3, e4, e5, e6⟩
theorem OwnDs.sl (h : OwnDs w lo hi sv ds) : DvSl w sv ds := by
  rcases h with h | ⟨g, cap, cs, f, h1, h2, h3, h4, h5, h6, h7⟩
  · exact .inl h
  · refine .inr ⟨g, 0, cap, h1, h3, h4, fun i x hx => ?_⟩
    obtain ⟨⟨pv, ⟨e1, e2, e3, e4⟩, b⟩, c⟩ := h6 i x hx
    have hc := h5.cell
    simp only [Nat.zero_add]
    exact ⟨pv, by rw [hc]; exact e1, by rw [hc]; exact e2, by rw [hc]; exact e3, by rw [hc]; exact e4, b.sl⟩
theorem OwnPs.sl (h : OwnPs w lo hi sv ps) : PtSl w sv ps := by
  rcases h with h | ⟨g, cap, cs, h1, h2, h3, h4, h5, h6⟩
  · exact .inl h
  · refine .inr ⟨g, 0, cap, h1, h3, h4, fun i x hx => ?_⟩
    obtain ⟨e1, e2⟩ := h6 i x hx
    have hc := h5.cell
    simp only [Nat.zero_add]
    exact ⟨by rw [hc]; exact e1, by rw [hc]; exact e2⟩
end
/- markDeviceS and heldDeviceS. -/
theorem Within.sub {lo hi lo' hi' : Nat} {w w' : World} (h : Within lo hi w w') (h1 : lo' ≤ lo) (h2 : hi ≤ hi') : Within lo' hi' w w' := ⟨h.os, h.tape, h.output, h.size, fun k hk hk' => h.block k hk (by omega)⟩
/- markPortS and heldPortS. -/
/- toDeviceS, toPortS, toNetlist: with the memory of the call's own; marking netlists. -/
/- Netlists in memory of the call's own; marking them. -/
def OwnNl (w : World) (lo hi : Nat) (v : Value) (x : Nl) : Prop := ∃ s1 s2 l1 h1 l2 h2, v = .agg #[.int .i64 x.nets, s1, s2] ∧ OwnDs w l1 h1 s1 x.ds ∧ OwnPs w l2 h2 s2 x.ps ∧ (lo ≤ l1 ∧ h1 ≤ hi) ∧ (lo ≤ l2 ∧ h2 ≤ hi) ∧ (h1 ≤ l2 ∨ h2 ≤ l1)
section
variable {w w' : World} {lo hi lo' hi' : Nat} {v : Value} {x : Nl}
theorem OwnNl.by (hb : Below w.heap.size w w') (h : OwnNl w lo hi v x) : OwnNl w' lo hi v x := by
  obtain ⟨s1, s2, l1, h1, l2, h2, e, a, b, c⟩ := h; exact ⟨s1, s2, l1, h1, l2, h2, e, a.by hb, b.by hb, c⟩
theorem OwnNl.past (hb : Within lo' hi' w w') (h : OwnNl w lo hi v x) (hd : hi ≤ lo' ∨ hi' ≤ lo) : OwnNl w' lo hi v x := by
  obtain ⟨s1, s2, l1, h1, l2, h2, e, a, b, c, d, f⟩ := h; exact ⟨s1, s2, l1, h1, l2, h2, e, a.past hb (by omega), b.past hb (by omega), c, d, f⟩
theorem OwnNl.wide (h : OwnNl w lo hi v x) (h1 : lo' ≤ lo) (h2 : hi ≤ hi') : OwnNl w lo' hi' v x := by
  obtain ⟨s1, s2, l1, h1, l2, h2, e, a, b, c, d, f⟩ := h; exact ⟨s1, s2, l1, h1, l2, h2, e, a, b, by omega, by omega, f⟩
theorem OwnNl.nl (h : OwnNl w lo hi v x) : NlV w v x := by
  obtain ⟨s1, s2, l1, h1, l2, h2, e, a, b, c⟩ := h; exact ⟨s1, s2, e, a.sl, b.sl⟩
end
theorem Within.off {g o : Nat} {w : World} (v : Value) : Within g (g + 1) w (w.setCell ⟨g, o, none⟩ v) := Within.set (Within.refl g (g + 1) w) g o v (Nat.le_refl _) (by omega)
/- What a netlist's marks come to. -/
/- Netlists of the call's own whose ports' block may lie between the blocks of the devices: marking them. -/
structure WithX (lo hi P : Nat) (w w' : World) : Prop where
  within : Within lo hi w w'
  keep : P < w.heap.size → w'.heap[P]? = w.heap[P]?
section
variable {lo hi P : Nat} {a w w' : World}
theorem WithX.refl (lo hi P : Nat) (w : World) : WithX lo hi P w w := ⟨Within.refl _ _ _, fun _ => rfl⟩
theorem WithX.set (h : WithX lo hi P a w) (g o : Nat) (v : Value) (h1 : lo ≤ g) (h2 : g < hi) (h3 : g ≠ P) : WithX lo hi P a (w.setCell ⟨g, o, none⟩ v) :=
  ⟨h.within.set g o v h1 h2, fun hp => (Below.heap_setCell w ⟨g, o, none⟩ v P (fun e => h3 e.symm)).trans (h.keep hp)⟩
theorem WithX.on (h : WithX lo hi P a w) (h' : WithX lo hi P w w') : WithX lo hi P a w' :=
  ⟨h.within.on h'.within, fun hp => (h'.keep (by have := h.within.size; omega)).trans (h.keep hp)⟩
end
def OwnDsX (w : World) (lo hi P : Nat) (sv : Value) (ds : List Dv) : Prop :=
  (∃ a c, sv = .slice a 0 c ∧ ds = []) ∨ ∃ (g cap : Nat) (cs : Array Value) (f : Nat → Nat), sv = .slice (some ⟨g, 0, none⟩) ds.length cap ∧ ((lo ≤ g ∧ g < hi) ∧ g ≠ P) ∧ ds.length ≤ cap ∧ cap ≤ maxLen ∧ Blk w g cs 54 ∧
    (∀ (i : Nat) (x : Dv), ds[i]? = some x → (∃ pv, Cs4 cs i (.int .i64 x.kind) pv (.int .i64 x.wd) (.int .i64 x.len) ∧ OwnR w (f i) (f i + 1) pv x.pins) ∧ (lo ≤ f i ∧ f i < hi ∧ f i ≠ g ∧ f i ≠ P)) ∧ (∀ i j, i < ds.length → j < ds.length → i ≠ j → f i ≠ f j)
section
variable {w w' : World} {lo hi P lo' hi' : Nat} {sv : Value} {ds : List Dv} {ps : List Pt}
theorem OwnDsX.ods (h : OwnDsX w lo hi P sv ds) : OwnDs w lo hi sv ds := by
  rcases h with h | ⟨g, cap, cs, f, h1, h2, h3, h4, h5, h6, h7⟩
  · exact .inl h
  · exact .inr ⟨g, cap, cs, f, h1, h2.1, h3, h4, h5, fun i x hx => ⟨(h6 i x hx).1, (h6 i x hx).2.1, (h6 i x hx).2.2.1, (h6 i x hx).2.2.2.1⟩, h7⟩
theorem OwnDsX.by (hb : Below w.heap.size w w') (h : OwnDsX w lo hi P sv ds) : OwnDsX w' lo hi P sv ds := by
  rcases h with h | ⟨g, cap, cs, f, h1, h2, h3, h4, h5, h6, h7⟩
  · exact .inl h
  · refine .inr ⟨g, cap, cs, f, h1, h2, h3, h4, Blk.by hb h5, fun i x hx => ?_, h7⟩
    obtain ⟨⟨pv, a, b⟩, c⟩ := h6 i x hx
    exact ⟨⟨pv, a, OwnR.by hb b⟩, c⟩
theorem OwnDsX.past (hb : Within lo' hi' w w') (h : OwnDsX w lo hi P sv ds) (hd : hi ≤ lo' ∨ hi' ≤ lo) : OwnDsX w' lo hi P sv ds := by
  rcases h with h | ⟨g, cap, cs, f, h1, h2, h3, h4, h5, h6, h7⟩
  · exact .inl h
  · refine .inr ⟨g, cap, cs, f, h1, h2, h3, h4, hb.blk h5 (by omega), fun i x hx => ?_, h7⟩
    obtain ⟨⟨pv, a, b⟩, c⟩ := h6 i x hx
    exact ⟨⟨pv, a, OwnR.past hb b (by omega)⟩, c⟩
theorem OwnDsX.off (h : OwnDsX w lo hi P sv ds) (hb : Within P (P + 1) w w') : OwnDsX w' lo hi P sv ds := by
  rcases h with h | ⟨g, cap, cs, f, h1, h2, h3, h4, h5, h6, h7⟩
  · exact .inl h
  · refine .inr ⟨g, cap, cs, f, h1, h2, h3, h4, hb.blk h5 (by omega), fun i x hx => ?_, h7⟩
    obtain ⟨⟨pv, a, b⟩, c⟩ := h6 i x hx
    exact ⟨⟨pv, a, OwnR.past hb b (by omega)⟩, c⟩
theorem OwnDsX.wide (h : OwnDsX w lo hi P sv ds) (h1 : lo' ≤ lo) (h2 : hi ≤ hi') : OwnDsX w lo' hi' P sv ds := by
  rcases h with h | ⟨g, cap, cs, f, e1, e2, e3, e4, e5, e6, e7⟩
  · exact .inl h
  · refine .inr ⟨g, cap, cs, f, e1, by omega, e3, e4, e5, fun i x hx => ?_, e7⟩
    obtain ⟨a, b⟩ := e6 i x hx
    exact ⟨a, by omega⟩
theorem OwnPs.at (h : OwnPs w lo hi sv ps) (hl : lo < hi) : ∃ P, OwnPs w P (P + 1) sv ps ∧ lo ≤ P ∧ P < hi := by
  rcases h with h | ⟨g, cap, cs, h1, h2, h3, h4, h5, h6⟩
  · exact ⟨lo, .inl h, Nat.le_refl _, hl⟩
  · exact ⟨g, .inr ⟨g, cap, cs, h1, by omega, h3, h4, h5, h6⟩, h2.1, h2.2⟩
end
def OwnNlX (w : World) (lo hi : Nat) (v : Value) (x : Nl) : Prop := ∃ s1 s2 P, v = .agg #[.int .i64 x.nets, s1, s2] ∧ OwnDsX w lo hi P s1 x.ds ∧ OwnPs w P (P + 1) s2 x.ps ∧ (lo ≤ P ∧ P < hi)
section
variable {w w' : World} {lo hi lo' hi' : Nat} {v : Value} {x : Nl}
theorem OwnNlX.by (hb : Below w.heap.size w w') (h : OwnNlX w lo hi v x) : OwnNlX w' lo hi v x := by
  obtain ⟨s1, s2, P, e, a, b, c⟩ := h; exact ⟨s1, s2, P, e, a.by hb, b.by hb, c⟩
theorem OwnNlX.past (hb : Within lo' hi' w w') (h : OwnNlX w lo hi v x) (hd : hi ≤ lo' ∨ hi' ≤ lo) : OwnNlX w' lo hi v x := by
  obtain ⟨s1, s2, P, e, a, b, c⟩ := h; exact ⟨s1, s2, P, e, a.past hb hd, b.past hb (by omega), c⟩
theorem OwnNlX.wide (h : OwnNlX w lo hi v x) (h1 : lo' ≤ lo) (h2 : hi ≤ hi') : OwnNlX w lo' hi' v x := by
  obtain ⟨s1, s2, P, e, a, b, c⟩ := h; exact ⟨s1, s2, P, e, a.wide h1 h2, b, by omega⟩
theorem OwnNlX.nl (h : OwnNlX w lo hi v x) : NlV w v x := by
  obtain ⟨s1, s2, P, e, a, b, c⟩ := h; exact ⟨s1, s2, e, a.ods.sl, b.sl⟩
theorem nlZeroX (w : World) (lo hi : Nat) (h : lo < hi) : OwnNlX w lo hi (.agg #[.int .i64 0, .slice none 0 0, .slice none 0 0]) ⟨0, [], []⟩ :=
  ⟨_, _, lo, rfl, .inl ⟨_, _, rfl, rfl⟩, .inl ⟨_, _, rfl, rfl⟩, Nat.le_refl _, h⟩
end
end Go.Proofs.YtehmiekendkjmaaGreat
