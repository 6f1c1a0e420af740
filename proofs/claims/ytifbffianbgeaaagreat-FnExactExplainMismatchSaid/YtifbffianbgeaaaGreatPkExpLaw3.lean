/- Contracts and plain laws, part 3, for the statement's proof. -/
import Derived.Test.YtifbffianbgeaaaGreatPkExpLaw2
import Derived.Laws.BytesArg
import Derived.WalkLawsBesides
import Derived.Deep.AppendLies
import Derived.Lib.SliceRun
import Derived.Deep.DeepCutAuto
import Derived.Deep.RegionLaw
import Derived.Laws.IdiomCopy
import Derived.Laws.AppendOwn
namespace Go.Proofs.YtifbffianbgeaaaGreat
open Go.RowKit
set_option linter.unusedVariables false
set_option linter.unusedSimpArgs false
/- Slices of devices and of ports in memory of the call's own. -/
def OwnDs (w : World) (lo hi : Nat) (sv : Value) (ds : List Dv) : Prop :=
  (∃ a c, sv = .slice a 0 c ∧ ds = []) ∨ ∃ (g cap : Nat) (cs : Array Value) (f : Nat → Nat), sv = .slice (some ⟨g, 0, none⟩) ds.length cap ∧ (lo ≤ g ∧ g < hi) ∧ ds.length ≤ cap ∧ cap ≤ maxLen ∧ Blk w g cs 62 ∧
    (∀ (i : Nat) (x : Dv), ds[i]? = some x → (∃ pv, Cs4 cs i (.int .i64 x.kind) pv (.int .i64 x.wd) (.int .i64 x.len) ∧ OwnR w (f i) (f i + 1) pv x.pins) ∧ (lo ≤ f i ∧ f i < hi ∧ f i ≠ g)) ∧ (∀ i j, i < ds.length → j < ds.length → i ≠ j → f i ≠ f j)
def OwnPs (w : World) (lo hi : Nat) (sv : Value) (ps : List Pt) : Prop :=
  (∃ a c, sv = .slice a 0 c ∧ ps = []) ∨ ∃ (g cap : Nat) (cs : Array Value), sv = .slice (some ⟨g, 0, none⟩) ps.length cap ∧ (lo ≤ g ∧ g < hi) ∧ ps.length ≤ cap ∧ cap ≤ maxLen ∧ Blk w g cs 98 ∧
    (∀ (i : Nat) (x : Pt), ps[i]? = some x → Cs2 cs i (.string x.name) (.int .i64 x.net))
section
variable {w w' : World} {lo hi lo' hi' : Nat} {sv : Value} {ds : List Dv} {ps : List Pt}
theorem OwnDs.by (hb : Below w.heap.size w w') (h : OwnDs w lo hi sv ds) : OwnDs w' lo hi sv ds := by
  rcases h with h | ⟨g, cap, cs, f, h1, h2, h3, h4, h5, h6, h7⟩
  · exact .inl h
  · refine .inr ⟨g, cap, cs, f, h1, h2, h3, h4, Blk.by hb h5, fun i x hx => ?_, h7⟩
    obtain ⟨⟨pv, a, b⟩, c⟩ := h6 i x hx
    exact ⟨⟨pv, a, OwnR.by hb b⟩, c⟩
theorem OwnPs.by (hb : Below w.heap.size w w') (h : OwnPs w lo hi sv ps) : OwnPs w' lo hi sv ps := by
  rcases h with h | ⟨g, cap, cs, h1, h2, h3, h4, h5, h6⟩
  · exact .inl h
  · exact .inr ⟨g, cap, cs, h1, h2, h3, h4, Blk.by hb h5, h6⟩
theorem OwnDs.past (hb : Within lo' hi' w w') (h : OwnDs w lo hi sv ds) (hd : hi ≤ lo' ∨ hi' ≤ lo) : OwnDs w' lo hi sv ds := by
  rcases h with h | ⟨g, cap, cs, f, h1, h2, h3, h4, h5, h6, h7⟩
  · exact .inl h
  · refine .inr ⟨g, cap, cs, f, h1, h2, h3, h4, hb.blk h5 (by omega), fun i x hx => ?_, h7⟩
    obtain ⟨⟨pv, a, b⟩, c⟩ := h6 i x hx
    exact ⟨⟨pv, a, OwnR.past hb b (by omega)⟩, c⟩
theorem OwnPs.past (hb : Within lo' hi' w w') (h : OwnPs w lo hi sv ps) (hd : hi ≤ lo' ∨ hi' ≤ lo) : OwnPs w' lo hi sv ps := by
  rcases h with h | ⟨g, cap, cs, h1, h2, h3, h4, h5, h6⟩
  · exact .inl h
  · exact .inr ⟨g, cap, cs, h1, h2, h3, h4, hb.blk h5 (by omega), h6⟩
theorem OwnDs.wide (h : OwnDs w lo hi sv ds) (h1 : lo' ≤ lo) (h2 : hi ≤ hi') : OwnDs w lo' hi' sv ds := by
  rcases h with h | ⟨g, cap, cs, f, e1, e2, e3, e4, e5, e6, e7⟩
  · exact .inl h
  · refine .inr ⟨g, cap, cs, f, e1, by omega, e3, e4, e5, fun i x hx => ?_, e7⟩
    obtain ⟨a, b⟩ := e6 i x hx
    exact ⟨a, by omega⟩
theorem OwnPs.wide (h : OwnPs w lo hi sv ps) (h1 : lo' ≤ lo) (h2 : hi ≤ hi') : OwnPs w lo' hi' sv ps := by
  rcases h with h | ⟨g, cap, cs, e1, e2, e3, e4, e5, e6⟩
  · exact .inl h
  · exact .inr ⟨g, cap, cs, e1, by omega, e3, e4, e5, e6⟩
theorem OwnDs.sl (h : OwnDs w lo hi sv ds) : DvSl w sv ds := by
  rcases h with h | ⟨g, cap, cs, f, h1, h2, h3, h4, h5, h6, h7⟩
  · exact .inl h
  · refine .inr ⟨g, 0, cap, h1, h3, h4, fun i x hx => ?_⟩
    obtain ⟨⟨pv, ⟨e1, e2, e3, e4⟩, b⟩, c⟩ := h6 i x hx
    have hc := h5.cell
    simp only [Nat.zero_add]
    exact ⟨pv, by rw [hc]; exact e1, by rw [hc]; exact e2, by rw [hc]; exact e3, by rw [hc]; exact e4, b.sl⟩
theorem OwnPs.sl (h : OwnPs w lo hi sv ps) : PtSl w sv ps := by
  rcases h with h | ⟨g, cap, cs, h1, h2, h3, h4, h5, h6⟩
  · exact .inl h
  · refine .inr ⟨g, 0, cap, h1, h3, h4, fun i x hx => ?_⟩
    obtain ⟨e1, e2⟩ := h6 i x hx
    have hc := h5.cell
    simp only [Nat.zero_add]
    exact ⟨by rw [hc]; exact e1, by rw [hc]; exact e2⟩
end
/- markDeviceS and heldDeviceS. -/
theorem Within.sub {lo hi lo' hi' : Nat} {w w' : World} (h : Within lo hi w w') (h1 : lo' ≤ lo) (h2 : hi ≤ hi') : Within lo' hi' w w' := ⟨h.os, h.tape, h.output, h.size, fun k hk hk' => h.block k hk (by omega)⟩
def set3 (cs : Array Value) (k : Nat) (u v z : Value) : Array Value := ((cs.setIfInBounds (k * 4) u).setIfInBounds (k * 4 + 2) v).setIfInBounds (k * 4 + 3) z
/- markPortS and heldPortS. -/
/- toDeviceS, toPortS, toNetlist: with the memory of the call's own; marking netlists. -/
/- Netlists in memory of the call's own; marking them. -/
def OwnNl (w : World) (lo hi : Nat) (v : Value) (x : Nl) : Prop := ∃ s1 s2 l1 h1 l2 h2, v = .agg #[.int .i64 x.nets, s1, s2] ∧ OwnDs w l1 h1 s1 x.ds ∧ OwnPs w l2 h2 s2 x.ps ∧ (lo ≤ l1 ∧ h1 ≤ hi) ∧ (lo ≤ l2 ∧ h2 ≤ hi) ∧ (h1 ≤ l2 ∨ h2 ≤ l1)
section
variable {w w' : World} {lo hi lo' hi' : Nat} {v : Value} {x : Nl}
theorem OwnNl.by (hb : Below w.heap.size w w') (h : OwnNl w lo hi v x) : OwnNl w' lo hi v x := by
  obtain ⟨s1, s2, l1, h1, l2, h2, e, a, b, c⟩ := h; exact ⟨s1, s2, l1, h1, l2, h2, e, a.by hb, b.by hb, c⟩
theorem OwnNl.past (hb : Within lo' hi' w w') (h : OwnNl w lo hi v x) (hd : hi ≤ lo' ∨ hi' ≤ lo) : OwnNl w' lo hi v x := by
  obtain ⟨s1, s2, l1, h1, l2, h2, e, a, b, c, d, f⟩ := h; exact ⟨s1, s2, l1, h1, l2, h2, e, a.past hb (by omega), b.past hb (by omega), c, d, f⟩
theorem OwnNl.wide (h : OwnNl w lo hi v x) (h1 : lo' ≤ lo) (h2 : hi ≤ hi') : OwnNl w lo' hi' v x := by
  obtain ⟨s1, s2, l1, h1, l2, h2, e, a, b, c, d, f⟩ := h; exact ⟨s1, s2, l1, h1, l2, h2, e, a, b, by omega, by omega, f⟩
end
theorem Within.off {g o : Nat} {w : World} (v : Value) : Within g (g + 1) w (w.setCell ⟨g, o, none⟩ v) := Within.set (Within.refl g (g + 1) w) g o v (Nat.le_refl _) (by omega)
/- What a netlist's marks come to. -/
/- Netlists of the call's own whose ports' block may lie between the blocks of the devices: marking them. -/
structure WithX (lo hi P : Nat) (w w' : World) : Prop where
  within : Within lo hi w w'
  keep : P < w.heap.size → w'.heap[P]? = w.heap[P]?
section
variable {lo hi P : Nat} {a w w' : World}
theorem WithX.refl (lo hi P : Nat) (w : World) : WithX lo hi P w w := ⟨Within.refl _ _ _, fun _ => rfl⟩
theorem WithX.set (h : WithX lo hi P a w) (g o : Nat) (v : Value) (h1 : lo ≤ g) (h2 : g < hi) (h3 : g ≠ P) : WithX lo hi P a (w.setCell ⟨g, o, none⟩ v) :=
  ⟨h.within.set g o v h1 h2, fun hp => (Below.heap_setCell w ⟨g, o, none⟩ v P (fun e => h3 e.symm)).trans (h.keep hp)⟩
theorem WithX.on (h : WithX lo hi P a w) (h' : WithX lo hi P w w') : WithX lo hi P a w' :=
  ⟨h.within.on h'.within, fun hp => (h'.keep (by have := h.within.size; omega)).trans (h.keep hp)⟩
end
def OwnDsX (w : World) (lo hi P : Nat) (sv : Value) (ds : List Dv) : Prop :=
  (∃ a c, sv = .slice a 0 c ∧ ds = []) ∨ ∃ (g cap : Nat) (cs : Array Value) (f : Nat → Nat), sv = .slice (some ⟨g, 0, none⟩) ds.length cap ∧ ((lo ≤ g ∧ g < hi) ∧ g ≠ P) ∧ ds.length ≤ cap ∧ cap ≤ maxLen ∧ Blk w g cs 62 ∧
    (∀ (i : Nat) (x : Dv), ds[i]? = some x → (∃ pv, Cs4 cs i (.int .i64 x.kind) pv (.int .i64 x.wd) (.int .i64 x.len) ∧ OwnR w (f i) (f i + 1) pv x.pins) ∧ (lo ≤ f i ∧ f i < hi ∧ f i ≠ g ∧ f i ≠ P)) ∧ (∀ i j, i < ds.length → j < ds.length → i ≠ j → f i ≠ f j)
section
variable {w w' : World} {lo hi P lo' hi' : Nat} {sv : Value} {ds : List Dv} {ps : List Pt}
theorem OwnDsX.by (hb : Below w.heap.size w w') (h : OwnDsX w lo hi P sv ds) : OwnDsX w' lo hi P sv ds := by
  rcases h with h | ⟨g, cap, cs, f, h1, h2, h3, h4, h5, h6, h7⟩
  · exact .inl h
  · refine .inr ⟨g, cap, cs, f, h1, h2, h3, h4, Blk.by hb h5, fun i x hx => ?_, h7⟩
    obtain ⟨⟨pv, a, b⟩, c⟩ := h6 i x hx
    exact ⟨⟨pv, a, OwnR.by hb b⟩, c⟩
theorem OwnDsX.past (hb : Within lo' hi' w w') (h : OwnDsX w lo hi P sv ds) (hd : hi ≤ lo' ∨ hi' ≤ lo) : OwnDsX w' lo hi P sv ds := by
  rcases h with h | ⟨g, cap, cs, f, h1, h2, h3, h4, h5, h6, h7⟩
  · exact .inl h
  · refine .inr ⟨g, cap, cs, f, h1, h2, h3, h4, hb.blk h5 (by omega), fun i x hx => ?_, h7⟩
    obtain ⟨⟨pv, a, b⟩, c⟩ := h6 i x hx
    exact ⟨⟨pv, a, OwnR.past hb b (by omega)⟩, c⟩
theorem OwnDsX.off (h : OwnDsX w lo hi P sv ds) (hb : Within P (P + 1) w w') : OwnDsX w' lo hi P sv ds := by
  rcases h with h | ⟨g, cap, cs, f, h1, h2, h3, h4, h5, h6, h7⟩
  · exact .inl h
  · refine .inr ⟨g, cap, cs, f, h1, h2, h3, h4, hb.blk h5 (by omega), fun i x hx => ?_, h7⟩
    obtain ⟨⟨pv, a, b⟩, c⟩ := h6 i x hx
    exact ⟨⟨pv, a, OwnR.past hb b (by omega)⟩, c⟩
theorem OwnDsX.wide (h : OwnDsX w lo hi P sv ds) (h1 : lo' ≤ lo) (h2 : hi ≤ hi') : OwnDsX w lo' hi' P sv ds := by
  rcases h with h | ⟨g, cap, cs, f, e1, e2, e3, e4, e5, e6, e7⟩
  · exact .inl h
  · refine .inr ⟨g, cap, cs, f, e1, by omega, e3, e4, e5, fun i x hx => ?_, e7⟩
    obtain ⟨a, b⟩ := e6 i x hx
    exact ⟨a, by omega⟩
theorem OwnPs.at (h : OwnPs w lo hi sv ps) (hl : lo < hi) : ∃ P, OwnPs w P (P + 1) sv ps ∧ lo ≤ P ∧ P < hi := by
  rcases h with h | ⟨g, cap, cs, h1, h2, h3, h4, h5, h6⟩
  · exact ⟨lo, .inl h, Nat.le_refl _, hl⟩
  · exact ⟨g, .inr ⟨g, cap, cs, h1, by omega, h3, h4, h5, h6⟩, h2.1, h2.2⟩
end
def OwnNlX (w : World) (lo hi : Nat) (v : Value) (x : Nl) : Prop := ∃ s1 s2 P, v = .agg #[.int .i64 x.nets, s1, s2] ∧ OwnDsX w lo hi P s1 x.ds ∧ OwnPs w P (P + 1) s2 x.ps ∧ (lo ≤ P ∧ P < hi)
section
variable {w w' : World} {lo hi lo' hi' : Nat} {v : Value} {x : Nl}
theorem OwnNlX.by (hb : Below w.heap.size w w') (h : OwnNlX w lo hi v x) : OwnNlX w' lo hi v x := by
  obtain ⟨s1, s2, P, e, a, b, c⟩ := h; exact ⟨s1, s2, P, e, a.by hb, b.by hb, c⟩
theorem OwnNlX.past (hb : Within lo' hi' w w') (h : OwnNlX w lo hi v x) (hd : hi ≤ lo' ∨ hi' ≤ lo) : OwnNlX w' lo hi v x := by
  obtain ⟨s1, s2, P, e, a, b, c⟩ := h; exact ⟨s1, s2, P, e, a.past hb hd, b.past hb (by omega), c⟩
theorem OwnNlX.wide (h : OwnNlX w lo hi v x) (h1 : lo' ≤ lo) (h2 : hi ≤ hi') : OwnNlX w lo' hi' v x := by
  obtain ⟨s1, s2, P, e, a, b, c⟩ := h; exact ⟨s1, s2, P, e, a.wide h1 h2, b, by omega⟩
end
def CoV (w : World) (v : Value) (x : List Int × List Int) : Prop := ∃ s1 s2, v = .agg #[s1, s2] ∧ IntSl w s1 x.1 ∧ IntSl w s2 x.2
theorem CoV.by {w w1 : World} {v : Value} {x : List Int × List Int} (hb : Below w.heap.size w w1) (h : CoV w v x) : CoV w1 v x := by
  obtain ⟨s1, s2, h1, h2, h3⟩ := h; exact ⟨s1, s2, h1, h2.by hb, h3.by hb⟩
theorem CoV.sized {w : World} {v : Value} {x : List Int × List Int} (h : CoV w v x) : ∃ a c a' c', v = .agg #[.slice a x.1.length c, .slice a' x.2.length c'] := by
  obtain ⟨s1, s2, rfl, hd, hp⟩ := h
  obtain ⟨a, c, rfl⟩ := hd.len
  obtain ⟨a', c', rfl⟩ := hp.len
  exact ⟨a, c, a', c', rfl⟩
open Go.ChangeShapes Go.WideShapes Go.ChangeAt Go.RowKit Go.Joins Go.Deep
/- A coloring as argument and result in memory. -/
theorem OwnPr.co {w : World} {lo hi : Nat} {v : Value} {x : List Int × List Int} (h : OwnPr w lo hi v x) : CoV w v x := by
  obtain ⟨s1, s2, l1, h1, l2, h2, e, a, b, c⟩ := h; exact ⟨s1, s2, e, a.sl, b.sl⟩
def colsB (zs : List Int) (n : Int) : Bool := zs.all (fun z => inB z 0 23) && decide ((zs.length : Int) = n)
def coB (x : Nl) (c : List Int × List Int) : Bool := nlB x && (colsB c.1 x.nets && colsB c.2 x.ds.length)
theorem coB_of {x : Nl} (c : List Int × List Int) (h : nlB x = true) : coB x c = (colsB c.1 x.nets && colsB c.2 x.ds.length) := by simp [coB, h]
def Dr (w w' : World) : Prop := ∃ n, w' = w.drewN n
theorem Dr.refl (w : World) : Dr w w := ⟨0, rfl⟩
theorem Dr.drewN {w w' : World} (h : Dr w w') (m : Nat) : Dr w (w'.drewN m) := by obtain ⟨n, rfl⟩ := h; exact ⟨n + m, World.drewN_drewN _ _ _⟩
theorem Dr.cell {w w' : World} (h : Dr w w') (p : Addr) : w'.cell? p = w.cell? p := by obtain ⟨n, rfl⟩ := h; rfl
theorem Dr.out {w w' : World} (h : Dr w w') : ∃ n, w' = w.drewN n := h
def sgn (a b : Int) : Int := if a < b then -1 else if b < a then 1 else 0
def lcmp : List Int → List Int → Int
  | [], [] => 0
  | [], _ :: _ => -1
  | _ :: _, [] => 1
  | a :: r, b :: s => if sgn a b = 0 then lcmp r s else sgn a b
def or2 (a b : Int) : Int := if a = 0 then b else a
def devcmp (k1 k2 : Int) (p1 p2 : List Int) (w1 w2 l1 l2 : Int) : Int := or2 (sgn k1 k2) (or2 (lcmp p1 p2) (or2 (sgn w1 w2) (sgn l1 l2)))
theorem sgn_lt {a b : Int} (h : a < b) : sgn a b = -1 := by simp [sgn, h]
theorem sgn_gt {a b : Int} (h : b < a) : sgn a b = 1 := by
  have : ¬ a < b := by omega
  simp [sgn, h, this]
theorem sgn_eq {a b : Int} (h : a = b) : sgn a b = 0 := by subst h; simp [sgn]
theorem drop_of {l : List Int} {k : Nat} {x : Int} (h : l[k]? = some x) : l.drop k = x :: l.drop (k + 1) := by
  obtain ⟨hlt, e⟩ := List.getElem?_eq_some_iff.1 h
  rw [List.drop_eq_getElem_cons hlt, e]
theorem lcmp_step {a b : List Int} {k : Nat} {x y : Int} (hx : a[k]? = some x) (hy : b[k]? = some y) : lcmp (a.drop k) (b.drop k) = if sgn x y = 0 then lcmp (a.drop (k + 1)) (b.drop (k + 1)) else sgn x y := by
  rw [drop_of hx, drop_of hy]; rfl
theorem lcmp_end1 {a b : List Int} {k : Nat} (ha : a.length ≤ k) : lcmp (a.drop k) (b.drop k) = if k < b.length then -1 else 0 := by
  rw [List.drop_eq_nil_of_le ha]
  split
  · rename_i h
    rw [List.drop_eq_getElem_cons h]; rfl
  · rw [List.drop_eq_nil_of_le (by omega)]; rfl
theorem lcmp_end2 {a b : List Int} {k : Nat} (ha : k < a.length) (hb : b.length ≤ k) : lcmp (a.drop k) (b.drop k) = 1 := by
  rw [List.drop_eq_nil_of_le hb, List.drop_eq_getElem_cons ha]; rfl
theorem IntSl.cells {w : World} {a : Option Addr} {n c : Nat} {zs : List Int} (h : IntSl w (.slice a n c) zs) : n = zs.length ∧ ∀ (i : Nat) (x : Int), zs[i]? = some x → ∃ b off, a = some ⟨b, off, none⟩ ∧ w.cell? ⟨b, off + i, none⟩ = some (.int .i64 x) := by
  rcases h with ⟨_, _, e, rfl⟩ | ⟨b, off, cap, e, h2, h3, h4⟩
  · simp at e
    exact ⟨e.2.1, by simp⟩
  · simp at e
    exact ⟨e.2.1, fun i x hx => ⟨b, off, e.1, h4 i x hx⟩⟩
theorem l27Sign_any (a b : Int) (w : World) :
    Calls Tryz.prog 107 #[.int .i64 a, .int .i64 b] w fun e w' => e = .returned (.int .i64 (sgn a b)) ∧ w = w' := by
  by_cases h1 : a < b
  · rw [sgn_lt h1]
    go_enter Tryz.func107, Tryz.ntmps107
    go_wp2
    go_ret
    exact ⟨rfl, rfl⟩
  · by_cases h2 : b < a
    · rw [sgn_gt h2]
      go_enter Tryz.func107, Tryz.ntmps107
      go_wp2
      go_ret
      exact ⟨rfl, rfl⟩
    · rw [sgn_eq (by omega)]
      go_enter Tryz.func107, Tryz.ntmps107
      go_wp2
      go_ret
      exact ⟨rfl, rfl⟩
theorem cmpCompare_any (a b : Int) (w : World) :
    Calls Tryz.prog 113 #[.int .i64 a, .int .i64 b] w fun e w' => e = .returned (.int .i64 (sgn a b)) ∧ w = w' := by
  by_cases h1 : a < b
  · rw [sgn_lt h1]
    go_enter Tryz.func113, Tryz.ntmps113
    go_wp2
    go_ret
    exact ⟨rfl, rfl⟩
  · by_cases h2 : b < a
    · rw [sgn_gt h2]
      go_enter Tryz.func113, Tryz.ntmps113
      go_wp2
      go_ret
      exact ⟨rfl, rfl⟩
    · rw [sgn_eq (by omega)]
      go_enter Tryz.func113, Tryz.ntmps113
      go_wp2
      go_ret
      exact ⟨rfl, rfl⟩
set_option maxRecDepth 100000 in
set_option maxHeartbeats 1000000 in
theorem l27List_any (s1 s2 : Value) (xs ys : List Int) (w : World) (h : IntSl w s1 xs) (h' : IntSl w s2 ys) :
    Calls Tryz.prog 108 #[s1, s2] w fun e w' => e = .returned (.int .i64 (lcmp xs ys)) ∧ ∃ n, w' = w.drewN n := by
  have hl1 := h.le
  have hl2 := h'.le
  obtain ⟨a, c, rfl⟩ := h.len
  obtain ⟨a', c', rfl⟩ := h'.len
  have HC := Lib.hid h.cells.2
  have HC' := Lib.hid h'.cells.2
  clear h h'
  obtain ⟨r, hr⟩ : ∃ r, lcmp xs ys = r := ⟨_, rfl⟩
  rw [hr]
  go_enter Tryz.func108, Tryz.ntmps108
  go_wp2
  go_loopw [5] (fun i wr => ∃ k : Nat, k ≤ xs.length ∧ k ≤ ys.length ∧ i = .int .i64 k ∧ Dr w wr ∧ lcmp (xs.drop k) (ys.drop k) = r) (fun i _ => xs.length - (intOf i).toNat)
  case atStart => exact ⟨0, Nat.zero_le _, Nat.zero_le _, rfl, Dr.refl _, by simpa using hr⟩
  case round =>
    obtain ⟨k, hk, hk', rfl, hdr, he⟩ := hrel
    have HE := Lib.hid he
    clear he hr
    by_cases h1 : k < xs.length
    · by_cases h2 : k < ys.length
      · obtain ⟨x, hx⟩ : ∃ x, xs[k]? = some x := ⟨xs[k], List.getElem?_eq_getElem h1⟩
        obtain ⟨y, hy⟩ : ∃ y, ys[k]? = some y := ⟨ys[k], List.getElem?_eq_getElem h2⟩
        obtain ⟨b, off, rfl, c1⟩ := HC.out k x hx
        rw [← hdr.cell] at c1
        obtain ⟨b', off', rfl, c2⟩ := HC'.out k y hy
        rw [← hdr.cell] at c2
        have HT := Lib.hid (lcmp_step hx hy)
        clear hx hy
        obtain ⟨z, hz⟩ : ∃ z, sgn x y = z := ⟨_, rfl⟩
        have hcall := fun w => l27Sign_any x y w
        rw [hz] at hcall
        have HS := Lib.hid hcall
        have HZ := Lib.hid hz
        clear hcall hz
        have i1 : (0 : Int) ≤ (k : Int) := by omega
        have i2 : (k : Int) < (xs.length : Int) := by omega
        have i3 : (k : Int) < (ys.length : Int) := by omega
        by_cases h0 : z = 0
        · subst h0
          go_wp2
          go_quiet ((go_at_call 107; exact Calls.quiet_of_same ((HS.out _).mono fun _ _ h => ⟨h.1, h.2.symm⟩)))
          go_wp2
          exact ⟨⟨k + 1, by omega, by omega, by go_num, by first | exact hdr | exact hdr.drewN _, by rw [← HE.out, HT.out, if_pos HZ.out]⟩, by simp [intOf]; omega⟩
        · have hz1 : (z == 0) = false := by simpa using h0
          have hz2 : (z != 0) = true := by simpa using h0
          go_wp2
          go_quiet ((go_at_call 107; exact Calls.quiet_of_same ((HS.out _).mono fun _ _ h => ⟨h.1, h.2.symm⟩)))
          go_wp2
          go_ret
          exact ⟨ret_i64 (by rw [← HE.out, HT.out, if_neg (by rw [HZ.out]; exact h0), HZ.out]), by first | exact hdr.out | exact (hdr.drewN _).out⟩
      · have hle : ys.length ≤ k := by omega
        have HT := Lib.hid (lcmp_end2 (b := ys) h1 hle)
        have HG := Lib.hid (sgn_gt (a := xs.length) (b := ys.length) (by omega))
        go_wp2_with fail
        refine (l27Sign_any _ _ _).mono ?_
        rintro e w' ⟨rfl, rfl⟩
        go_wp2
        go_ret
        exact ⟨ret_i64 (by rw [HG.out, ← HE.out, HT.out]), by first | exact hdr.out | exact (hdr.drewN _).out⟩
    · have hle : xs.length ≤ k := by omega
      have HT := Lib.hid (lcmp_end1 (b := ys) hle)
      go_wp2_with fail
      refine (l27Sign_any _ _ _).mono ?_
      rintro e w' ⟨rfl, rfl⟩
      go_wp2
      go_ret
      refine ⟨ret_i64 ?_, by first | exact hdr.out | exact (hdr.drewN _).out⟩
      rw [← HE.out, HT.out]
      split
      · exact sgn_lt (by omega)
      · exact sgn_eq (by omega)
set_option maxRecDepth 100000 in
set_option maxHeartbeats 1000000 in
theorem slicesCompare_any (s1 s2 : Value) (xs ys : List Int) (w : World) (h : IntSl w s1 xs) (h' : IntSl w s2 ys) :
    Calls Tryz.prog 114 #[s1, s2] w fun e w' => e = .returned (.int .i64 (lcmp xs ys)) ∧ ∃ n, w' = w.drewN n := by
  have hl1 := h.le
  have hl2 := h'.le
  obtain ⟨a, c, rfl⟩ := h.len
  obtain ⟨a', c', rfl⟩ := h'.len
  have HC := Lib.hid h.cells.2
  have HC' := Lib.hid h'.cells.2
  clear h h'
  obtain ⟨r, hr⟩ : ∃ r, lcmp xs ys = r := ⟨_, rfl⟩
  rw [hr]
  go_enter Tryz.func114, Tryz.ntmps114
  go_wp2
  go_loopw [11] (fun i wr => ∃ k : Nat, k ≤ xs.length ∧ k ≤ ys.length ∧ i = .int .i64 k ∧ Dr w wr ∧ lcmp (xs.drop k) (ys.drop k) = r) (fun i _ => xs.length - (intOf i).toNat)
  case atStart => exact ⟨0, Nat.zero_le _, Nat.zero_le _, rfl, Dr.refl _, by simpa using hr⟩
  case round =>
    obtain ⟨k, hk, hk', rfl, hdr, he⟩ := hrel
    have HE := Lib.hid he
    clear he hr
    by_cases h1 : k < xs.length
    · obtain ⟨x, hx⟩ : ∃ x, xs[k]? = some x := ⟨xs[k], List.getElem?_eq_getElem h1⟩
      obtain ⟨b, off, rfl, c1⟩ := HC.out k x hx
      rw [← hdr.cell] at c1
      have i1 : (0 : Int) ≤ (k : Int) := by omega
      have i2 : (k : Int) < (xs.length : Int) := by omega
      by_cases h2 : k < ys.length
      · obtain ⟨y, hy⟩ : ∃ y, ys[k]? = some y := ⟨ys[k], List.getElem?_eq_getElem h2⟩
        obtain ⟨b', off', rfl, c2⟩ := HC'.out k y hy
        rw [← hdr.cell] at c2
        have HT := Lib.hid (lcmp_step hx hy)
        clear hx hy
        obtain ⟨z, hz⟩ : ∃ z, sgn x y = z := ⟨_, rfl⟩
        have hcall := fun w => cmpCompare_any x y w
        rw [hz] at hcall
        have HS := Lib.hid hcall
        have HZ := Lib.hid hz
        clear hcall hz
        have i3 : (k : Int) < (ys.length : Int) := by omega
        by_cases h0 : z = 0
        · subst h0
          go_wp2_with (go_at_call 113; refine (HS.out _).mono ?_; rintro e w' ⟨rfl, rfl⟩)
          exact ⟨⟨k + 1, by omega, by omega, by go_num, by first | exact hdr | exact hdr.drewN _, by rw [← HE.out, HT.out, if_pos HZ.out]⟩, by simp [intOf]; omega⟩
        · have hz1 : (z == 0) = false := by simpa using h0
          have hz2 : (z != 0) = true := by simpa using h0
          go_wp2_with (go_at_call 113; refine (HS.out _).mono ?_; rintro e w' ⟨rfl, rfl⟩)
          go_ret
          exact ⟨ret_i64 (by rw [← HE.out, HT.out, if_neg (by rw [HZ.out]; exact h0), HZ.out]), by first | exact hdr.out | exact (hdr.drewN _).out⟩
      · have hle : ys.length ≤ k := by omega
        have HT := Lib.hid (lcmp_end2 (b := ys) h1 hle)
        clear hx
        go_wp2
        go_ret
        exact ⟨ret_i64 (by rw [← HE.out, HT.out]), by first | exact hdr.out | exact (hdr.drewN _).out⟩
    · have hle : xs.length ≤ k := by omega
      have HT := Lib.hid (lcmp_end1 (b := ys) hle)
      have hkx : k = xs.length := by omega
      subst hkx
      by_cases h2 : xs.length < ys.length
      · go_wp2
        go_ret
        exact ⟨ret_i64 (by rw [← HE.out, HT.out, if_pos h2]), by first | exact hdr.out | exact (hdr.drewN _).out⟩
      · go_wp2
        go_ret
        exact ⟨ret_i64 (by rw [← HE.out, HT.out, if_neg h2]), by first | exact hdr.out | exact (hdr.drewN _).out⟩
theorem cmpOr_any (g : Nat) (a b c d : Int) (w : World) (h : Blk w g #[.int .i64 a, .int .i64 b, .int .i64 c, .int .i64 d] 3) :
    Calls Tryz.prog 112 #[.slice (some ⟨g, 0, none⟩) 4 4] w fun e w' => e = .returned (.int .i64 (or2 a (or2 b (or2 c d)))) ∧ w = w' := by
  obtain ⟨r, hr⟩ : ∃ r, or2 a (or2 b (or2 c d)) = r := ⟨_, rfl⟩
  rw [hr]
  have HR := Lib.hid hr
  clear hr
  have hc := h.cell
  by_cases h1 : a = 0
  · have e1 : (a == 0) = true := by simpa using h1
    have f1 : (a != 0) = false := by simpa using h1
    subst h1
    by_cases h2 : b = 0
    · subst h2
      by_cases h3 : c = 0
      · subst h3
        by_cases h4 : d = 0
        · subst h4
          go_enter Tryz.func112, Tryz.ntmps112
          go_wp2
          refine wp_loop_rounds 5 ?_
          repeat any_goals (rw [rounds_succ]; go_wp2)
          go_ret
          exact ⟨ret_i64 (by rw [← HR.out]; simp [or2]), rfl⟩
        · have f4 : (d != 0) = true := by simpa using h4
          have e4 : (d == 0) = false := by simpa using h4
          go_enter Tryz.func112, Tryz.ntmps112
          go_wp2
          refine wp_loop_rounds 5 ?_
          repeat any_goals (rw [rounds_succ]; go_wp2)
          go_ret
          exact ⟨ret_i64 (by rw [← HR.out]; simp [or2]), rfl⟩
      · have f3 : (c != 0) = true := by simpa using h3
        have e3 : (c == 0) = false := by simpa using h3
        go_enter Tryz.func112, Tryz.ntmps112
        go_wp2
        refine wp_loop_rounds 5 ?_
        repeat any_goals (rw [rounds_succ]; go_wp2)
        go_ret
        exact ⟨ret_i64 (by rw [← HR.out]; simp [or2, h3]), rfl⟩
    · have f2 : (b != 0) = true := by simpa using h2
      have e2 : (b == 0) = false := by simpa using h2
      go_enter Tryz.func112, Tryz.ntmps112
      go_wp2
      refine wp_loop_rounds 5 ?_
      repeat any_goals (rw [rounds_succ]; go_wp2)
      go_ret
      exact ⟨ret_i64 (by rw [← HR.out]; simp [or2, h2]), rfl⟩
  · have f1 : (a != 0) = true := by simpa using h1
    have e1 : (a == 0) = false := by simpa using h1
    go_enter Tryz.func112, Tryz.ntmps112
    go_wp2
    refine wp_loop_rounds 5 ?_
    repeat any_goals (rw [rounds_succ]; go_wp2)
    go_ret
    exact ⟨ret_i64 (by rw [← HR.out]; simp [or2, h1]), rfl⟩
/- Contracts of the functions that compare two devices. -/
theorem or2_ne {a b : Int} (h : a ≠ 0) : or2 a b = a := by simp [or2, h]
theorem or2_z (b : Int) : or2 0 b = b := by simp [or2]
set_option maxRecDepth 100000 in
set_option maxHeartbeats 2000000 in
theorem specCompareDevices_any (k1 w1 l1 k2 w2 l2 : Int) (s1 s2 : Value) (xs ys : List Int) (w : World) (h : IntSl w s1 xs) (h' : IntSl w s2 ys) :
    Calls Tryz.prog 59 #[.agg #[.int .i64 k1, s1, .int .i64 w1, .int .i64 l1], .agg #[.int .i64 k2, s2, .int .i64 w2, .int .i64 l2]] w fun e w' => e = .returned (.int .i64 (devcmp k1 k2 xs ys w1 w2 l1 l2)) ∧ Below w.heap.size w w' := by
  obtain ⟨r, hr⟩ : ∃ r, devcmp k1 k2 xs ys w1 w2 l1 l2 = r := ⟨_, rfl⟩
  rw [hr]
  unfold devcmp at hr
  have hw := (((Below.refl _ w).alloc (Nat.le_refl _) (.cells #[.int .i64 k1, s1, .int .i64 w1, .int .i64 l1] 62)).alloc (by simp) (.cells #[.int .i64 k2, s2, .int .i64 w2, .int .i64 l2] 62))
  have h1 := h.by hw
  have h2 := h'.by hw
  obtain ⟨a, c, rfl⟩ := h.len
  obtain ⟨a', c', rfl⟩ := h'.len
  clear h h' hw
  have g1 := fun w => l27Sign_any k1 k2 w
  have g2 := fun w h h' => l27List_any (.slice a xs.length c) (.slice a' ys.length c') xs ys w h h'
  have g3 := fun w => l27Sign_any w1 w2 w
  have g4 := fun w => l27Sign_any l1 l2 w
  generalize sgn k1 k2 = z1 at *
  generalize lcmp xs ys = z2 at *
  generalize sgn w1 w2 = z3 at *
  generalize sgn l1 l2 = z4 at *
  have HR := Lib.hid hr
  have H1 := Lib.hid g1
  have H2 := Lib.hid g2
  have H3 := Lib.hid g3
  have H4 := Lib.hid g4
  clear hr g1 g2 g3 g4
  by_cases e1 : z1 = 0
  · subst e1
    by_cases e2 : z2 = 0
    · subst e2
      by_cases e3 : z3 = 0
      · subst e3
        go_enter Tryz.func59, Tryz.ntmps59
        go_wp2_with fail
        refine (H1.out _).mono ?_
        rintro e w' ⟨rfl, rfl⟩
        go_wp2_with fail
        refine (H2.out _ h1 h2).mono ?_
        rintro e w' ⟨rfl, m, rfl⟩
        go_wp2_with fail
        refine (H3.out _).mono ?_
        rintro e w' ⟨rfl, rfl⟩
        go_wp2_with fail
        refine (H4.out _).mono ?_
        rintro e w' ⟨rfl, rfl⟩
        go_wp2
        go_ret
        exact ⟨ret_i64 (by rw [← HR.out]; simp [or2]), blwT⟩
      · have f3 : (z3 != 0) = true := by simpa using e3
        have d3 : (z3 == 0) = false := by simpa using e3
        go_enter Tryz.func59, Tryz.ntmps59
        go_wp2_with fail
        refine (H1.out _).mono ?_
        rintro e w' ⟨rfl, rfl⟩
        go_wp2_with fail
        refine (H2.out _ h1 h2).mono ?_
        rintro e w' ⟨rfl, m, rfl⟩
        go_wp2_with fail
        refine (H3.out _).mono ?_
        rintro e w' ⟨rfl, rfl⟩
        go_wp2
        go_ret
        exact ⟨ret_i64 (by rw [← HR.out]; simp [or2, e3]), blwT⟩
    · have f2 : (z2 != 0) = true := by simpa using e2
      have d2 : (z2 == 0) = false := by simpa using e2
      go_enter Tryz.func59, Tryz.ntmps59
      go_wp2_with fail
      refine (H1.out _).mono ?_
      rintro e w' ⟨rfl, rfl⟩
      go_wp2_with fail
      refine (H2.out _ h1 h2).mono ?_
      rintro e w' ⟨rfl, m, rfl⟩
      go_wp2
      go_ret
      exact ⟨ret_i64 (by rw [← HR.out]; simp [or2, e2]), blwT⟩
  · have f1 : (z1 != 0) = true := by simpa using e1
    have d1 : (z1 == 0) = false := by simpa using e1
    go_enter Tryz.func59, Tryz.ntmps59
    go_wp2_with fail
    refine (H1.out _).mono ?_
    rintro e w' ⟨rfl, rfl⟩
    go_wp2
    go_ret
    exact ⟨ret_i64 (by rw [← HR.out]; simp [or2, e1]), blwT⟩
set_option maxRecDepth 100000 in
set_option maxHeartbeats 2000000 in
theorem compareDevices_any (k1 w1 l1 k2 w2 l2 : Int) (s1 s2 : Value) (xs ys : List Int) (w : World) (h : IntSl w s1 xs) (h' : IntSl w s2 ys) :
    Calls Tryz.prog 62 #[.agg #[.int .i64 k1, s1, .int .i64 w1, .int .i64 l1], .agg #[.int .i64 k2, s2, .int .i64 w2, .int .i64 l2]] w fun e w' => e = .returned (.int .i64 (devcmp k1 k2 xs ys w1 w2 l1 l2)) ∧ Below w.heap.size w w' := by
  obtain ⟨r, hr⟩ : ∃ r, devcmp k1 k2 xs ys w1 w2 l1 l2 = r := ⟨_, rfl⟩
  rw [hr]
  unfold devcmp at hr
  have hw := (((Below.refl _ w).alloc (Nat.le_refl _) (.cells #[.int .i64 k1, s1, .int .i64 w1, .int .i64 l1] 62)).alloc (by simp) (.cells #[.int .i64 k2, s2, .int .i64 w2, .int .i64 l2] 62))
  have h1 := h.by hw
  have h2 := h'.by hw
  obtain ⟨a, c, rfl⟩ := h.len
  obtain ⟨a', c', rfl⟩ := h'.len
  clear h h' hw
  have g1 := fun w => cmpCompare_any k1 k2 w
  have g2 := fun w h h' => slicesCompare_any (.slice a xs.length c) (.slice a' ys.length c') xs ys w h h'
  have g3 := fun w => cmpCompare_any w1 w2 w
  have g4 := fun w => cmpCompare_any l1 l2 w
  generalize sgn k1 k2 = z1 at *
  generalize lcmp xs ys = z2 at *
  generalize sgn w1 w2 = z3 at *
  generalize sgn l1 l2 = z4 at *
  have HR := Lib.hid hr
  have H1 := Lib.hid g1
  have H2 := Lib.hid g2
  have H3 := Lib.hid g3
  have H4 := Lib.hid g4
  clear hr g1 g2 g3 g4
  go_enter Tryz.func62, Tryz.ntmps62
  go_wp2_with fail
  go_region_held3 (fun w' => (Blk w' (w.heap.size) #[.int .i64 k1, .slice a xs.length c, .int .i64 w1, .int .i64 l1] 62 ∧ ∀ o, w'.cell? ⟨w.heap.size, o, none⟩ = (#[.int .i64 k1, .slice a xs.length c, .int .i64 w1, .int .i64 l1] : Array Value)[o]?) ∧ (Blk w' (w.heap.size + 1) #[.int .i64 k2, .slice a' ys.length c', .int .i64 w2, .int .i64 l2] 62 ∧ ∀ o, w'.cell? ⟨w.heap.size + 1, o, none⟩ = (#[.int .i64 k2, .slice a' ys.length c', .int .i64 w2, .int .i64 l2] : Array Value)[o]?) ∧ Below w.heap.size w w') (((try (obtain ⟨⟨hS0, _⟩, ⟨hS1, _⟩, hSB⟩ := hHeld)); refine ⟨Blk.both ?_, Blk.both ?_, ?_⟩ <;> first | ((repeat (first | (with_reducible assumption) | (with_reducible refine Blk.drewN ?_ _) | (with_reducible refine Blk.drew ?_) | ((with_reducible refine Blk.new _ ?_); focus (first | omega | (simp; done) | (simp; omega))) | (with_reducible refine Blk.past ?_ _) | ((with_reducible refine Blk.apart ?_ _ _ _ ?_); rotate_left; focus (first | omega | (simp; done) | (simp; omega))) | (with_reducible refine Blk.by (by assumption) ?_))); done) | ((repeat (first | (with_reducible exact Below.refl _ _) | (with_reducible refine below_drewN ?_ _) | (with_reducible refine Below.drew ?_) | (with_reducible refine below_al ?_ _) | (with_reducible refine below_on (by assumption) ?_) | ((with_reducible refine Below.setCell ?_ ?_ _); rotate_left; focus (first | omega | (simp; done) | (simp; omega))) | (with_reducible assumption))); done)))
    (first | (go_at_call_of 113 (Value.int .i64 k1); refine (H1.out _).mono ?_; rintro e w' ⟨rfl, rfl⟩) | (go_at_call_of 113 (Value.int .i64 w1); refine (H3.out _).mono ?_; rintro e w' ⟨rfl, rfl⟩) | (go_at_call_of 113 (Value.int .i64 l1); refine (H4.out _).mono ?_; rintro e w' ⟨rfl, rfl⟩) | (go_at_call 114; refine (H2.out _ (h1.by (below_of_drewN _ 1)) (h2.by (below_of_drewN _ 1))).mono ?_; rintro e w' ⟨rfl, m, rfl⟩) | (go_at_call 112; refine (cmpOr_any _ z1 z2 z3 z4 _ (Blk.new _ (by simp))).mono ?_; rintro e w' ⟨rfl, rfl⟩))
  all_goals go_wp2
  all_goals go_ret
  exact ⟨ret_i64 HR.out, blwT⟩
/- Parallel devices, devices in series, first pairs: plain. -/
def curP : List Int → Int
  | [p, _] => p
  | [_, p, _] => p
  | _ => 0
def curQ : List Int → Int
  | [_, q] => q
  | [_, _, q] => q
  | _ => 0
def gateOf : List Int → Int
  | [g, _, _] => g
  | _ => 0
def Shp (x : Dv) : Prop := (x.kind = 2 ∧ ∃ p q, x.pins = [p, q]) ∨ ((x.kind = 0 ∨ x.kind = 1) ∧ ∃ g p q, x.pins = [g, p, q])
theorem shp_of {nets : Int} {x : Dv} (h : dvB nets x = true) : Shp x := by
  obtain ⟨h1, h2, _⟩ := dvB_all h
  have hk := inB_iff.1 h1
  by_cases h2' : x.kind = 2
  · left
    refine ⟨h2', ?_⟩
    simp only [pinsOf, h2', if_pos] at h2
    match hp : x.pins, h2 with
    | [p, q], _ => exact ⟨p, q, rfl⟩
  · right
    refine ⟨by omega, ?_⟩
    simp only [pinsOf, if_neg h2'] at h2
    match hp : x.pins, h2 with
    | [g, p, q], _ => exact ⟨g, p, q, rfl⟩
theorem lcmp_zero : ∀ (a b : List Int), lcmp a b = 0 ↔ a = b
  | [], [] => by simp [lcmp]
  | [], _ :: _ => by simp [lcmp]
  | _ :: _, [] => by simp [lcmp]
  | a :: r, b :: s => by
    have ih := lcmp_zero r s
    unfold lcmp
    by_cases h : sgn a b = 0
    · rw [if_pos h, ih]
      have hab : a = b := by
        unfold sgn at h
        split at h
        · omega
        · split at h
          · omega
          · omega
      simp [hab]
    · rw [if_neg h]
      have hab : a ≠ b := fun e => h (sgn_eq e)
      simp [hab, h]
/- Current pins, gates: contracts. -/
theorem IntSl.two {w : World} {sv : Value} {p q : Int} (h : IntSl w sv [p, q]) : ∃ b off cap, sv = .slice (some ⟨b, off, none⟩) 2 cap ∧ w.cell? ⟨b, off, none⟩ = some (.int .i64 p) ∧ w.cell? ⟨b, off + 1, none⟩ = some (.int .i64 q) ∧ b < w.heap.size := by
  rcases h with ⟨_, _, _, h2⟩ | ⟨b, off, cap, hsv, h2, h3, h4⟩
  · simp at h2
  simp only [List.length_cons, List.length_nil, Nat.zero_add, Nat.reduceAdd] at hsv
  have hp : w.cell? ⟨b, off, none⟩ = some (.int .i64 p) := by have := h4 0 p rfl; simpa using this
  have hq : w.cell? ⟨b, off + 1, none⟩ = some (.int .i64 q) := by have := h4 1 q rfl; simpa using this
  refine ⟨b, off, cap, hsv, hp, hq, ?_⟩
  rcases Nat.lt_or_ge b w.heap.size with h' | h'
  · exact h'
  · simp [World.cell?, Array.getElem?_eq_none h'] at hp
theorem IntSl.three {w : World} {sv : Value} {g p q : Int} (h : IntSl w sv [g, p, q]) : ∃ b off cap, sv = .slice (some ⟨b, off, none⟩) 3 cap ∧ w.cell? ⟨b, off, none⟩ = some (.int .i64 g) ∧ w.cell? ⟨b, off + 1, none⟩ = some (.int .i64 p) ∧ w.cell? ⟨b, off + 2, none⟩ = some (.int .i64 q) ∧ b < w.heap.size := by
  rcases h with ⟨_, _, _, h2⟩ | ⟨b, off, cap, hsv, h2, h3, h4⟩
  · simp at h2
  simp only [List.length_cons, List.length_nil, Nat.zero_add, Nat.reduceAdd] at hsv
  have hg : w.cell? ⟨b, off, none⟩ = some (.int .i64 g) := by have := h4 0 g rfl; simpa using this
  have hp : w.cell? ⟨b, off + 1, none⟩ = some (.int .i64 p) := by have := h4 1 p rfl; simpa using this
  have hq : w.cell? ⟨b, off + 2, none⟩ = some (.int .i64 q) := by have := h4 2 q rfl; simpa using this
  refine ⟨b, off, cap, hsv, hg, hp, hq, ?_⟩
  rcases Nat.lt_or_ge b w.heap.size with h' | h'
  · exact h'
  · simp [World.cell?, Array.getElem?_eq_none h'] at hp
set_option maxRecDepth 100000 in
set_option maxHeartbeats 1000000 in
theorem currentPins_any (x : Dv) (sv : Value) (w : World) (h : IntSl w sv x.pins) (hs : Shp x) :
    Calls Tryz.prog 175 #[.agg #[.int .i64 x.kind, sv, .int .i64 x.wd, .int .i64 x.len]] w fun e w' => e = .returned (.tuple #[.int .i64 (curP x.pins), .int .i64 (curQ x.pins)]) ∧ Below w.heap.size w w' := by
  obtain ⟨kind, pins, wd, len⟩ := x
  dsimp only at h ⊢
  rcases hs with ⟨_, p, q, hp⟩ | ⟨_, g, p, q, hp⟩
  · dsimp only at hp; subst hp
    obtain ⟨b, off, cap, rfl, c0, c1, hb⟩ := h.two
    clear h
    simp only [curP, curQ]
    go_enter Tryz.func175, Tryz.ntmps175
    go_wp2
    go_quiet (fail)
    go_wp2
    go_ret2
    exact ⟨rfl, blwT⟩
  · dsimp only at hp; subst hp
    obtain ⟨b, off, cap, rfl, c0, c1, c2, hb⟩ := h.three
    clear h
    simp only [curP, curQ]
    go_enter Tryz.func175, Tryz.ntmps175
    go_wp2
    go_quiet (fail)
    go_wp2
    go_ret2
    exact ⟨rfl, blwT⟩
/- Parallel devices: contracts. -/
def dcells : List Dv → List Value → List Value
  | d :: ds, p :: ps => .int .i64 d.kind :: p :: .int .i64 d.wd :: .int .i64 d.len :: dcells ds ps
  | _, _ => []
theorem dcells_push (ds : List Dv) (ps : List Value) (d : Dv) (p : Value) (h : ps.length = ds.length) : dcells (ds ++ [d]) (ps ++ [p]) = dcells ds ps ++ [.int .i64 d.kind, p, .int .i64 d.wd, .int .i64 d.len] := by
  induction ds generalizing ps with
  | nil => cases ps with
    | nil => rfl
    | cons => simp at h
  | cons y ys ih => cases ps with
    | nil => simp at h
    | cons q qs => simp at h; simp [dcells, ih qs h]
theorem dcells_get (ds : List Dv) (ps : List Value) (i : Nat) (d : Dv) (p : Value) (h : ds[i]? = some d) (hp : ps[i]? = some p) : (dcells ds ps)[i * 4]? = some (.int .i64 d.kind) ∧ (dcells ds ps)[i * 4 + 1]? = some p ∧ (dcells ds ps)[i * 4 + 2]? = some (.int .i64 d.wd) ∧ (dcells ds ps)[i * 4 + 3]? = some (.int .i64 d.len) := by
  induction ds generalizing ps i with
  | nil => simp at h
  | cons y ys ih => cases ps with
    | nil => simp at hp
    | cons q qs => cases i with
      | zero => simp at h hp; subst h hp; simp [dcells]
      | succ i =>
        simp at h hp
        have e : ∀ r, (dcells (y :: ys) (q :: qs))[(i + 1) * 4 + r]? = (dcells ys qs)[i * 4 + r]? := by
          intro r
          show (Value.int .i64 y.kind :: q :: Value.int .i64 y.wd :: Value.int .i64 y.len :: dcells ys qs)[(i + 1) * 4 + r]? = _
          rw [show (i + 1) * 4 + r = (i * 4 + r) + 1 + 1 + 1 + 1 by omega]
          simp only [List.getElem?_cons_succ]
        have e0 := e 0
        simp only [Nat.add_zero] at e0
        rw [e0, e 1, e 2, e 3]
        exact ih qs i h hp
def Bld (w : World) (lo hi : Nat) (v : Value) (ds : List Dv) : Prop := hi ≤ w.heap.size ∧ ∃ (pvs : List Value) (f : Nat → Nat), w.ownsRow lo 62 4 v ds.length (dcells ds pvs) ∧ pvs.length = ds.length ∧ (∀ g, v.ownBlock = some g → lo ≤ g ∧ g < hi) ∧
  (∀ i x pv, ds[i]? = some x → pvs[i]? = some pv → OwnR w (f i) (f i + 1) pv x.pins ∧ (lo ≤ f i ∧ f i < hi) ∧ v.ownBlock ≠ some (f i)) ∧ (∀ i j, i < ds.length → j < ds.length → i ≠ j → f i ≠ f j)
section
variable {w w' : World} {lo hi : Nat} {v : Value} {ds : List Dv}
theorem grown_within {row : Option Nat} (h : w.grownBy w' row) (hr : ∀ g, row = some g → lo ≤ g ∧ g < hi) : Within lo hi w w' :=
  ⟨h.os, h.tape, h.output, h.size, fun k hk hd => h.block k hk (fun e => by have := hr k e.symm; omega)⟩
theorem row_same {T : TypeId} {k n : Nat} {xs : List Value} (h : w.ownsRow lo T k v n xs) (hb : ∀ g, v.ownBlock = some g → w'.heap[g]? = w.heap[g]?) : w'.ownsRow lo T k v n xs := by
  obtain ⟨h1, h2⟩ := h
  refine ⟨h1, ?_⟩
  rcases h2 with h2 | ⟨g, cap, cur, e1, e2, e3, e4⟩
  · exact .inl h2
  · exact .inr ⟨g, cap, cur, e1, e2, by rw [hb g (by rw [e1]; rfl)]; exact e3, e4⟩
theorem Bld.nil (w : World) (lo : Nat) : Bld w lo w.heap.size (.slice none 0 0) [] :=
  ⟨Nat.le_refl _, [], fun _ => 0, World.ownsRow_nil w lo _ 4, rfl, (by intro g h; cases h), (by intro i x pv h; simp at h), (by intro i j h; simp at h)⟩
theorem Bld.by (hb : Below w.heap.size w w') (h : Bld w lo hi v ds) : Bld w' lo hi v ds := by
  obtain ⟨hs, pvs, f, h1, h2, h3, h4, h5⟩ := h
  refine ⟨Nat.le_trans hs hb.size, pvs, f, row_same h1 (fun g hg => hb.block g (by have := h3 g hg; omega)), h2, h3, fun i x pv hx hp => ?_, h5⟩
  obtain ⟨a, b, c⟩ := h4 i x pv hx hp
  exact ⟨OwnR.by hb a, b, c⟩
theorem Bld.past {lo' hi' : Nat} (hb : Within lo' hi' w w') (h : Bld w lo hi v ds) (hd : hi' ≤ lo ∨ hi ≤ lo') : Bld w' lo hi v ds := by
  obtain ⟨hs, pvs, f, h1, h2, h3, h4, h5⟩ := h
  refine ⟨Nat.le_trans hs hb.size, pvs, f, row_same h1 (fun g hg => hb.block g (by have := h3 g hg; omega) (by have := h3 g hg; omega)), h2, h3, fun i x pv hx hp => ?_, h5⟩
  obtain ⟨a, b, c⟩ := h4 i x pv hx hp
  exact ⟨OwnR.past hb a (by omega), b, c⟩
theorem Bld.sized (h : Bld w lo hi v ds) : ∃ a c, v = .slice a ds.length c := by
  obtain ⟨_, pvs, f, ⟨_, h1⟩, _⟩ := h
  rcases h1 with ⟨h1, h2⟩ | ⟨g, cap, cur, e1, _⟩
  · exact ⟨none, 0, by rw [h1, h2]⟩
  · exact ⟨_, _, e1⟩
theorem Bld.own (h : Bld w lo hi v ds) : OwnDs w lo hi v ds := by
  obtain ⟨hs, pvs, f, ⟨hlen, h1⟩, h2, h3, h4, h5⟩ := h
  rcases h1 with ⟨h1, hn⟩ | ⟨g, cap, cur, e1, e2, e3, e4, e5, e6, e7⟩
  · exact .inl ⟨_, _, h1, List.eq_nil_of_length_eq_zero hn⟩
  · have hcur : ∀ (j : Nat) u, (dcells ds pvs)[j]? = some u → cur[j]? = some u := by
      intro j u hu
      rw [← e7] at hu
      have hj : j < ds.length * 4 := by
        have := (List.getElem?_eq_some_iff.1 hu).1
        rw [List.length_take] at this; omega
      rw [List.getElem?_take_of_lt hj] at hu
      simpa using hu
    refine .inr ⟨g, cap, cur, f, e1, h3 g (by rw [e1]; rfl), e4, e5, e3, fun i x hx => ?_, h5⟩
    have hi : i < ds.length := (List.getElem?_eq_some_iff.1 hx).1
    obtain ⟨pv, hp⟩ : ∃ pv, pvs[i]? = some pv := ⟨pvs[i]'(by omega), List.getElem?_eq_getElem (by omega)⟩
    obtain ⟨a, b, c⟩ := h4 i x pv hx hp
    obtain ⟨q0, q1, q2, q3⟩ := dcells_get ds pvs i x pv hx hp
    refine ⟨⟨pv, ⟨hcur _ _ q0, hcur _ _ q1, hcur _ _ q2, hcur _ _ q3⟩, a⟩, b.1, b.2, fun e => c (by rw [e1, e]; rfl)⟩
end
theorem step_push {ops : Array Oper} {o : Oper} {a : Act} {w : World} {K : Act → World → Prop} {Q : Exit → Act → World → Prop} {E : Prop} (hgd : o.guard = none) (s x : Operand)
    (ho : o.op = .call { callee := .builtin .append, args := #[s, x], argTypes := #[32, 32] })
    (lo hi : Nat) (v : Value) (ds : List Dv) (hs : a.eval s = v) (hB : Bld w lo hi v ds) (nb : Nat) (d : Dv) (pv : Value) (fb : Nat) (hx : a.eval x = .slice (some ⟨nb, 0, none⟩) 1 1)
    (hnb : Blk w nb #[.int .i64 d.kind, pv, .int .i64 d.wd, .int .i64 d.len] 62) (hpv : OwnR w fb (fb + 1) pv d.pins) (hlo : lo ≤ hi) (hhi : hi ≤ fb) (hfb : fb < w.heap.size) (hn : ds.length ≤ 1000)
    (hK : ∀ a' c' w', Bld w' lo w'.heap.size (.slice a' (ds.length + 1) c') (ds ++ [d]) → Within lo hi w w' → K (a.put o.dst (.slice a' (ds.length + 1) c')) w') :
    if Region.wanted o (yielded ops a.tmps) = true then Oper.wp Tryz.prog o a w K Q else E := by
  obtain ⟨i0, hi0, hz0, hz1, hz2⟩ := info_parts infoDev
  obtain ⟨hsz, pvs, f, h1, h2, h3, h4, h5⟩ := hB
  have hone : pv.oneCell' = true := by
    rcases hpv with ⟨_, _, rfl, _⟩ | ⟨_, _, _, rfl, _⟩ <;> rfl
  refine step_append_lies w hgd s x 32 ho lo 62 i0 _ 4 48 Tryz.underlying32 hi0 hz0 hz1 hz2 rfl (by decide) v ds.length _ hs h1 ⟨nb, 0, none⟩ 1 1 [.int .i64 d.kind, pv, .int .i64 d.wd, .int .i64 d.len] hx rfl (World.news_of_block (cs := #[.int .i64 d.kind, pv, .int .i64 d.wd, .int .i64 d.len]) hnb) ?_ (by decide) (by unfold maxLen; omega) (by omega) (by omega) w.heap.size rfl ?_
  · intro u hu
    simp at hu
    rcases hu with rfl | rfl | rfl | rfl
    · rfl
    · exact hone
    · rfl
    · rfl
  · intro g cap w' hrow hgrow hg hgl
    have hW : Within lo hi w w' := grown_within hgrow h3
    refine hK (some ⟨g, 0, none⟩) cap w' ⟨Nat.le_refl _, pvs ++ [pv], fun i => if i = ds.length then fb else f i, ?_, by simp [h2], ?_, ?_, ?_⟩ hW
    · rw [List.length_append, List.length_singleton, dcells_push ds pvs d pv h2]; exact hrow
    · intro g' hg'
      have : g = g' := by injection hg'
      subst this
      rcases hg with h | h
      · have := h3 g h; omega
      · omega
    · intro i y pv' hy hp'
      by_cases hi' : i < ds.length
      · rw [List.getElem?_append_left hi'] at hy
        rw [List.getElem?_append_left (by omega)] at hp'
        obtain ⟨a1, b1, c1⟩ := h4 i y pv' hy hp'
        simp only [if_neg (show i ≠ ds.length by omega)]
        have hsep : ∀ g0, v.ownBlock = some g0 → g0 ≠ f i := fun g0 e1 e2 => c1 (by rw [e1, e2])
        refine ⟨?_, by have := hgrow.size; omega, ?_⟩
        · cases hv : v.ownBlock with
          | none => exact OwnR.by ⟨hgrow.os, hgrow.tape, hgrow.output, hgrow.size, fun k hk => hgrow.block k hk (by rw [hv]; simp)⟩ a1
          | some g0 => exact OwnR.past (grown_within (lo := g0) (hi := g0 + 1) hgrow (fun g1 e => by rw [hv] at e; cases e; omega)) a1 (by have := hsep g0 hv; omega)
        · intro e
          have : g = f i := by injection e
          rcases hg with h | h
          · exact hsep g h this
          · omega
      · have hil : i < (ds ++ [d]).length := (List.getElem?_eq_some_iff.1 hy).1
        simp at hil
        obtain rfl : i = ds.length := by omega
        rw [List.getElem?_append_right (Nat.le_refl _)] at hy
        rw [List.getElem?_append_right (by omega)] at hp'
        simp [h2] at hy hp'
        subst hy hp'
        simp only [if_true]
        refine ⟨OwnR.past hW hpv (by omega), by have := hgrow.size; omega, ?_⟩
        intro e
        have : g = fb := by injection e
        rcases hg with h | h
        · have := h3 g h; omega
        · omega
    · intro i j hi' hj' hij
      simp at hi' hj'
      by_cases e1 : i = ds.length
      · subst e1
        obtain ⟨y, hy⟩ : ∃ y, ds[j]? = some y := ⟨ds[j]'(by omega), List.getElem?_eq_getElem (by omega)⟩
        obtain ⟨p, hp⟩ : ∃ p, pvs[j]? = some p := ⟨pvs[j]'(by omega), List.getElem?_eq_getElem (by omega)⟩
        have := (h4 j y p hy hp).2.1
        simp only [if_true, if_neg (show j ≠ ds.length by omega)]
        omega
      · by_cases e2 : j = ds.length
        · subst e2
          obtain ⟨y, hy⟩ : ∃ y, ds[i]? = some y := ⟨ds[i]'(by omega), List.getElem?_eq_getElem (by omega)⟩
          obtain ⟨p, hp⟩ : ∃ p, pvs[i]? = some p := ⟨pvs[i]'(by omega), List.getElem?_eq_getElem (by omega)⟩
          have := (h4 i y p hy hp).2.1
          simp only [if_true, if_neg e1]
          omega
        · simp only [if_neg e1, if_neg e2]
          exact h5 i j (by omega) (by omega) hij
/- Copies of slices of ports. -/
def pcells : List Pt → List Value
  | p :: ps => .string p.name :: .int .i64 p.net :: pcells ps
  | [] => []
theorem pcells_get (ps : List Pt) (i : Nat) (p : Pt) (h : ps[i]? = some p) : (pcells ps)[i * 2]? = some (.string p.name) ∧ (pcells ps)[i * 2 + 1]? = some (.int .i64 p.net) := by
  induction ps generalizing i with
  | nil => simp at h
  | cons q qs ih => cases i with
    | zero => simp at h; subst h; simp [pcells]
    | succ i =>
      simp at h
      have e : ∀ r, (pcells (q :: qs))[(i + 1) * 2 + r]? = (pcells qs)[i * 2 + r]? := by
        intro r
        show (Value.string q.name :: Value.int .i64 q.net :: pcells qs)[(i + 1) * 2 + r]? = _
        rw [show (i + 1) * 2 + r = (i * 2 + r) + 1 + 1 by omega]
        simp only [List.getElem?_cons_succ]
      have e0 := e 0
      simp only [Nat.add_zero] at e0
      rw [e0, e 1]
      exact ih i h
section
variable {w w1 : World} {lo : Nat} {sv : Value} {ps : List Pt}
end
/- copyNetlist. -/
theorem OwnI.pin {w : World} {lo : Nat} {sv : Value} {zs : List Int} (h : OwnI w lo sv zs) (hne : zs ≠ []) : ∃ g, lo ≤ g ∧ g < w.heap.size ∧ OwnR w g (g + 1) sv zs := by
  rcases h with ⟨_, _, _, h⟩ | ⟨g, cap, cs, h1, h2, h3, h4, h5, h6⟩
  · exact absurd h hne
  · exact ⟨g, h2, h5.lt, .inr ⟨g, cap, cs, h1, Nat.le_refl _, Nat.lt_succ_self _, h3, h4, h5, h6⟩⟩
def BldP (w : World) (lo hi : Nat) (v : Value) (ps : List Pt) : Prop := hi ≤ w.heap.size ∧ w.ownsRow lo 98 2 v ps.length (pcells ps) ∧ (∀ g, v.ownBlock = some g → lo ≤ g ∧ g < hi)
section
variable {w w' : World} {lo hi : Nat} {v : Value} {ps : List Pt}
theorem BldP.nil (w : World) (lo : Nat) : BldP w lo w.heap.size (.slice none 0 0) [] :=
  ⟨Nat.le_refl _, World.ownsRow_nil w lo _ 2, by intro g h; cases h⟩
theorem BldP.by (hb : Below w.heap.size w w') (h : BldP w lo hi v ps) : BldP w' lo hi v ps := by
  obtain ⟨hs, h1, h3⟩ := h
  exact ⟨Nat.le_trans hs hb.size, row_same h1 (fun g hg => hb.block g (by have := h3 g hg; omega)), h3⟩
theorem BldP.past {lo' hi' : Nat} (hb : Within lo' hi' w w') (h : BldP w lo hi v ps) (hd : hi' ≤ lo ∨ hi ≤ lo') : BldP w' lo hi v ps := by
  obtain ⟨hs, h1, h3⟩ := h
  exact ⟨Nat.le_trans hs hb.size, row_same h1 (fun g hg => hb.block g (by have := h3 g hg; omega) (by have := h3 g hg; omega)), h3⟩
theorem BldP.sized (h : BldP w lo hi v ps) : ∃ a c, v = .slice a ps.length c := by
  obtain ⟨_, ⟨_, h1⟩, _⟩ := h
  rcases h1 with ⟨h1, h2⟩ | ⟨g, cap, cur, e1, _⟩
  · exact ⟨none, 0, by rw [h1, h2]⟩
  · exact ⟨_, _, e1⟩
theorem BldP.own (h : BldP w lo hi v ps) : OwnPs w lo hi v ps := by
  obtain ⟨hs, ⟨hlen, h1⟩, h3⟩ := h
  rcases h1 with ⟨h1, hn⟩ | ⟨g, cap, cur, e1, e2, e3, e4, e5, e6, e7⟩
  · exact .inl ⟨_, _, h1, List.eq_nil_of_length_eq_zero hn⟩
  · have hcur : ∀ (j : Nat) u, (pcells ps)[j]? = some u → cur[j]? = some u := by
      intro j u hu
      rw [← e7] at hu
      have hj : j < ps.length * 2 := by
        have := (List.getElem?_eq_some_iff.1 hu).1
        rw [List.length_take] at this; omega
      rw [List.getElem?_take_of_lt hj] at hu
      simpa using hu
    refine .inr ⟨g, cap, cur, e1, h3 g (by rw [e1]; rfl), e4, e5, e3, fun i x hx => ?_⟩
    obtain ⟨q0, q1⟩ := pcells_get ps i x hx
    exact ⟨hcur _ _ q0, hcur _ _ q1⟩
end
/- Netlists with other numbers of nets: the plain part. -/
def nmOf (names : List Int) (p : Int) : Int := names.getD p.toNat 0
def renD (names : List Int) (d : Dv) : Dv := ⟨d.kind, d.pins.map (nmOf names), d.wd, d.len⟩
def renTo (names : List Int) (zs : List Int) (k : Nat) : List Int := (zs.take k).map (nmOf names) ++ zs.drop k
theorem renTo_zero (names zs : List Int) : renTo names zs 0 = zs := by simp [renTo]
theorem renTo_all (names zs : List Int) : renTo names zs zs.length = zs.map (nmOf names) := by simp [renTo]
theorem renTo_get (names zs : List Int) (k : Nat) (z : Int) (h : zs[k]? = some z) : (renTo names zs k)[k]? = some z := by
  have hk := (List.getElem?_eq_some_iff.1 h).1
  rw [renTo, List.getElem?_append_right (by simp; omega)]
  simp
  rw [show k - min k zs.length = 0 by omega]
  simpa using h
theorem renTo_step (names zs : List Int) (k : Nat) (z : Int) (h : zs[k]? = some z) : (renTo names zs k).set k (nmOf names z) = renTo names zs (k + 1) := by
  have hk := (List.getElem?_eq_some_iff.1 h).1
  apply List.ext_getElem?
  intro i
  have e : zs[k] = z := by rw [List.getElem?_eq_getElem hk] at h; exact Option.some.inj h
  unfold renTo
  rw [take_snoc_of zs k z h]
  by_cases hi : i = k
  · subst hi
    rw [List.getElem?_set_self (by simp; omega)]
    rw [List.getElem?_append_left (by simp; omega), List.map_append, List.getElem?_append_right (by simp; omega)]
    simp
    rw [show i - min i zs.length = 0 by omega]
    rfl
  · rw [List.getElem?_set_ne (by omega)]
    by_cases hlt : i < k
    · rw [List.getElem?_append_left (by simp; omega), List.getElem?_append_left (by simp; omega), List.map_append, List.getElem?_append_left (by simp; omega)]
    · rw [List.getElem?_append_right (by simp; omega), List.getElem?_append_right (by simp; omega)]
      simp
      congr 1
      omega
theorem take_map_snoc {α β : Type} (f : α → β) (xs : List α) (k : Nat) (x : α) (h : xs[k]? = some x) : (xs.take (k + 1)).map f = (xs.take k).map f ++ [f x] := by
  rw [take_snoc_of xs k x h]; simp
def ICs (cs : Array Value) (zs : List Int) : Prop := ∀ (i : Nat) (z : Int), zs[i]? = some z → cs[i]? = some (Value.int .i64 z)
theorem ICs.set {cs : Array Value} {zs : List Int} (h : ICs cs zs) (k : Nat) (v : Int) : ICs (cs.setIfInBounds k (.int .i64 v)) (zs.set k v) := by
  intro i z hz
  have hi : i < zs.length := by have := (List.getElem?_eq_some_iff.1 hz).1; simpa using this
  have hc := h i zs[i] (List.getElem?_eq_getElem hi)
  have hs := (Array.getElem?_eq_some_iff.1 hc).1
  by_cases e : k = i
  · subst e
    rw [List.getElem?_set_self hi] at hz
    cases hz
    simp [Array.getElem?_setIfInBounds, hs]
  · rw [List.getElem?_set_ne e] at hz
    rw [Array.getElem?_setIfInBounds, if_neg e]
    exact h i z hz
theorem ICs.own {w : World} {g cap : Nat} {cs : Array Value} {zs : List Int} (h : ICs cs zs) (hB : Blk w g cs 2) (h1 : zs.length ≤ cap) (h2 : cap ≤ maxLen) : OwnR w g (g + 1) (.slice (some ⟨g, 0, none⟩) zs.length cap) zs :=
  .inr ⟨g, cap, cs, rfl, Nat.le_refl _, Nat.lt_succ_self _, h1, h2, hB, h⟩
theorem OwnR.cells {w : World} {lo hi : Nat} {sv : Value} {zs : List Int} (h : OwnR w lo hi sv zs) (hz : zs ≠ []) : ∃ g cap cs, sv = .slice (some ⟨g, 0, none⟩) zs.length cap ∧ (lo ≤ g ∧ g < hi) ∧ zs.length ≤ cap ∧ cap ≤ maxLen ∧ Blk w g cs 2 ∧ ICs cs zs := by
  rcases h with ⟨_, _, _, h⟩ | ⟨g, cap, cs, h1, h2, h2', h3, h4, h5, h6⟩
  · exact absurd h hz
  · exact ⟨g, cap, cs, h1, ⟨h2, h2'⟩, h3, h4, h5, h6⟩
/- The two pushes at a plain list of operations. -/
theorem list_push {ops : Array Oper} {rest : List Oper} {o : Oper} {a : Act} {w : World} {Q : Exit → Act → World → Prop} (hgd : o.guard = none) (s x : Operand)
    (ho : o.op = .call { callee := .builtin .append, args := #[s, x], argTypes := #[32, 32] })
    (lo hi : Nat) (v : Value) (ds : List Dv) (hs : a.eval s = v) (hB : Bld w lo hi v ds) (nb : Nat) (d : Dv) (pv : Value) (fb : Nat) (hx : a.eval x = .slice (some ⟨nb, 0, none⟩) 1 1)
    (hnb : Blk w nb #[.int .i64 d.kind, pv, .int .i64 d.wd, .int .i64 d.len] 62) (hpv : OwnR w fb (fb + 1) pv d.pins) (hlo : lo ≤ hi) (hhi : hi ≤ fb) (hfb : fb < w.heap.size) (hn : ds.length ≤ 1000)
    (hK : ∀ a' c' w', Bld w' lo w'.heap.size (.slice a' (ds.length + 1) c') (ds ++ [d]) → Within lo hi w w' → wpList Tryz.prog ops Q rest (a.put o.dst (.slice a' (ds.length + 1) c')) w') : wpList Tryz.prog ops Q (o :: rest) a w :=
  wpList_plain hgd fun K hk => by
    have h := step_push (ops := ops) (K := K) (Q := Q) (E := False) hgd s x ho lo hi v ds hs hB nb d pv fb hx hnb hpv hlo hhi hfb hn (fun a' c' w' h1 h2 => hk _ _ (hK a' c' w' h1 h2))
    rwa [if_pos (by simp [Region.wanted, hgd])] at h
/- One device's pins, one port's net, turned in place. -/
section
variable {α : Type} (f : α → α)
end
def iota (n : Nat) : List Int := (List.range n).map (fun (i : Nat) => (i : Int))
theorem length_iota (n : Nat) : (iota n).length = n := by simp [iota]
theorem iota_get (n i : Nat) (h : i < n) : (iota n)[i]? = some (i : Int) := by simp [iota, h]
theorem mem_iota (n : Nat) (z : Int) : z ∈ iota n ↔ 0 ≤ z ∧ z < n := by
  simp only [iota, List.mem_map, List.mem_range]
  constructor
  · rintro ⟨i, hi, rfl⟩; omega
  · intro h; exact ⟨z.toNat, by omega, by omega⟩
theorem perm_of_nodup : ∀ (l r : List Int), l.Nodup → (∀ z ∈ l, z ∈ r) → r.length ≤ l.length → l.Perm r
  | [], r, _, _, h => by
    have : r = [] := List.eq_nil_of_length_eq_zero (by simpa using h)
    subst this; exact List.Perm.nil
  | a :: l, r, hn, hs, h => by
    rw [List.nodup_cons] at hn
    have ha : a ∈ r := hs a (by simp)
    have hp := List.perm_cons_erase ha
    refine (List.Perm.cons a (perm_of_nodup l (r.erase a) hn.2 (fun z hz => ?_) ?_)).trans hp.symm
    · rw [List.mem_erase_of_ne (fun e => hn.1 (by rw [← e]; exact hz))]
      exact hs z (by simp [hz])
    · rw [List.length_erase_of_mem ha]; simp at h; omega
def permB (zs : List Int) (n : Int) : Bool := decide ((zs.length : Int) = n ∧ zs.Nodup ∧ ∀ z ∈ zs, 0 ≤ z ∧ z < n)
theorem permB_iff {zs : List Int} {n : Int} : permB zs n = true ↔ ((zs.length : Int) = n ∧ zs.Nodup ∧ ∀ z ∈ zs, 0 ≤ z ∧ z < n) := by simp [permB]
theorem permB_perm {zs : List Int} {n : Int} (h : permB zs n = true) : zs.Perm (iota zs.length) := by
  obtain ⟨h1, h2, h3⟩ := permB_iff.1 h
  refine perm_of_nodup _ _ h2 (fun z hz => ?_) (by rw [length_iota]; exact Nat.le_refl _)
  rw [mem_iota, h1]; exact h3 z hz
def srt (zs : List Int) : List Int := zs.mergeSort (fun x y => decide (x ≤ y))
theorem length_srt (zs : List Int) : (srt zs).length = zs.length := by simp [srt]
theorem srt_perm (zs : List Int) : (srt zs).Perm zs := List.mergeSort_perm _ _
theorem srt_pairwise (zs : List Int) : (srt zs).Pairwise (fun x y => decide (x ≤ y) = true) :=
  List.pairwise_mergeSort (fun a b c h1 h2 => by simp at *; omega) (fun a b => by simp; omega) zs
theorem permB_dup {zs : List Int} {n z : Int} {i j : Nat} (hij : i < j) (hi : zs[i]? = some z) (hj : zs[j]? = some z) : permB zs n = false := by
  cases h' : permB zs n with
  | false => rfl
  | true =>
    have h2 := (permB_iff.1 h').2.1
    unfold List.Nodup at h2
    rw [List.pairwise_iff_getElem] at h2
    obtain ⟨li, ei⟩ := List.getElem?_eq_some_iff.1 hi
    obtain ⟨lj, ej⟩ := List.getElem?_eq_some_iff.1 hj
    exact absurd (ei.trans ej.symm) (h2 i j li lj hij)
theorem permB_all {zs : List Int} {n : Int} (h1 : ∀ z ∈ zs, 0 ≤ z ∧ z < n) (h2 : ∀ (i j : Nat) z, i < j → zs[i]? = some z → zs[j]? = some z → False) : permB zs n = decide ((zs.length : Int) = n) := by
  by_cases hn : (zs.length : Int) = n
  · rw [decide_eq_true hn, permB_iff]
    refine ⟨hn, ?_, h1⟩
    unfold List.Nodup
    rw [List.pairwise_iff_getElem]
    intro i j li lj hij e
    exact h2 i j zs[i] hij (List.getElem?_eq_getElem li) (by rw [e]; exact List.getElem?_eq_getElem lj)
  · rw [decide_eq_false hn]
    cases h' : permB zs n with
    | false => rfl
    | true => exact absurd (permB_iff.1 h').1 hn
def invTo (zs : List Int) : Nat → List Int
  | 0 => List.replicate zs.length 0
  | k + 1 => (invTo zs k).set (zs.getD k 0).toNat k
def invS (zs : List Int) : List Int := invTo zs zs.length
theorem length_invTo (zs : List Int) (k : Nat) : (invTo zs k).length = zs.length := by
  induction k with
  | zero => simp [invTo]
  | succ k ih => simp [invTo, ih]
theorem length_invS (zs : List Int) : (invS zs).length = zs.length := length_invTo _ _
theorem invTo_step (zs : List Int) (k : Nat) (z : Int) (h : zs[k]? = some z) : invTo zs (k + 1) = (invTo zs k).set z.toNat k := by
  simp [invTo, List.getD, h]
theorem invTo_get {zs : List Int} {n : Int} (hp : permB zs n = true) (k i : Nat) (z : Int) (hik : i < k) (hk : k ≤ zs.length) (hz : zs[i]? = some z) : (invTo zs k)[z.toNat]? = some (i : Int) := by
  obtain ⟨h1, h2, h3⟩ := permB_iff.1 hp
  induction k with
  | zero => omega
  | succ k ih =>
    obtain ⟨y, hy⟩ : ∃ y, zs[k]? = some y := ⟨zs[k], List.getElem?_eq_getElem (by omega)⟩
    rw [invTo_step zs k y hy]
    have hzr := h3 z (List.mem_of_getElem? hz)
    have hyr := h3 y (List.mem_of_getElem? hy)
    by_cases e : i = k
    · subst e
      rw [hz] at hy; cases hy
      rw [List.getElem?_set_self (by rw [length_invTo]; omega)]
    · have hne : y.toNat ≠ z.toNat := by
        intro e'
        have : y = z := by omega
        subst this
        have := permB_dup (n := n) (show i < k by omega) hz hy
        rw [this] at hp; cases hp
      rw [List.getElem?_set_ne hne]
      exact ih (by omega) (by omega)
theorem invS_get {zs : List Int} {n : Int} (hp : permB zs n = true) (i : Nat) (z : Int) (hz : zs[i]? = some z) : (invS zs)[z.toNat]? = some (i : Int) :=
  invTo_get hp _ i z (List.getElem?_eq_some_iff.1 hz).1 (Nat.le_refl _) hz
theorem permB_has {zs : List Int} {n : Int} (hp : permB zs n = true) (k : Int) (h0 : 0 ≤ k) (h1 : k < n) : ∃ i : Nat, zs[i]? = some k := by
  have := (permB_perm hp).mem_iff (a := k)
  rw [mem_iota] at this
  have hl := (permB_iff.1 hp).1
  obtain ⟨i, hi, e⟩ := List.mem_iff_getElem.1 (this.2 ⟨h0, by omega⟩)
  exact ⟨i, by rw [List.getElem?_eq_getElem hi, e]⟩
theorem invS_inv {zs : List Int} {n : Int} (hp : permB zs n = true) (k : Nat) (hk : (k : Int) < n) : ∃ i : Nat, (invS zs)[k]? = some (i : Int) ∧ zs[i]? = some (k : Int) := by
  obtain ⟨i, hi⟩ := permB_has hp k (by omega) hk
  have := invS_get hp i k hi
  exact ⟨i, by simpa using this, hi⟩
theorem permB_invS {zs : List Int} {n : Int} (hp : permB zs n = true) : permB (invS zs) n = true := by
  obtain ⟨h1, h2, h3⟩ := permB_iff.1 hp
  have hl := length_invS zs
  have key : ∀ (k : Nat) v, (invS zs)[k]? = some v → ∃ i : Nat, v = i ∧ zs[i]? = some (k : Int) := by
    intro k v hv
    have hk := (List.getElem?_eq_some_iff.1 hv).1
    obtain ⟨i, e1, e2⟩ := invS_inv hp k (by omega)
    rw [e1] at hv; cases hv
    exact ⟨i, rfl, e2⟩
  rw [permB_all, hl, decide_eq_true h1]
  · intro z hz
    obtain ⟨k, hk, e⟩ := List.mem_iff_getElem.1 hz
    obtain ⟨i, e1, e2⟩ := key k z (by rw [List.getElem?_eq_getElem hk, e])
    have := (List.getElem?_eq_some_iff.1 e2).1
    omega
  · intro a b z hab ha hb
    obtain ⟨i, e1, e2⟩ := key a z ha
    obtain ⟨j, e3, e4⟩ := key b z hb
    have : i = j := by omega
    subst this
    rw [e2] at e4; simp at e4; omega
def thruS (zs ys : List Int) : List Int := zs.map fun z => ys.getD z.toNat 0
theorem length_thruS (zs ys : List Int) : (thruS zs ys).length = zs.length := by simp [thruS]
theorem thru_inv {zs : List Int} {n : Int} (hp : permB zs n = true) : thruS zs (invS zs) = iota zs.length := by
  apply List.ext_getElem?
  intro i
  by_cases hi : i < zs.length
  · rw [iota_get _ _ hi]
    have hz : zs[i]? = some zs[i] := List.getElem?_eq_getElem hi
    have := invS_get hp i zs[i] hz
    simp [thruS, List.getD, hz, this]
  · rw [List.getElem?_eq_none (by rw [length_thruS]; omega), List.getElem?_eq_none (by rw [length_iota]; omega)]
theorem inv_thru {zs : List Int} {n : Int} (hp : permB zs n = true) : thruS (invS zs) zs = iota zs.length := by
  apply List.ext_getElem?
  intro i
  have hl := length_invS zs
  have hn := (permB_iff.1 hp).1
  by_cases hi : i < zs.length
  · rw [iota_get _ _ hi]
    obtain ⟨j, e1, e2⟩ := invS_inv hp i (by omega)
    simp [thruS, List.getD, e1, e2]
  · rw [List.getElem?_eq_none (by rw [length_thruS, hl]; omega), List.getElem?_eq_none (by rw [length_iota]; omega)]
/- A slice of int64 that grows in memory of the call's own. -/
def icells (zs : List Int) : List Value := zs.map (Value.int .i64)
theorem icells_push (zs ys : List Int) : icells (zs ++ ys) = icells zs ++ icells ys := by simp [icells]
def BldI (w : World) (lo hi : Nat) (v : Value) (zs : List Int) : Prop := hi ≤ w.heap.size ∧ w.ownsRow lo 2 1 v zs.length (icells zs) ∧ (∀ g, v.ownBlock = some g → lo ≤ g ∧ g < hi)
section
variable {w w' : World} {lo hi : Nat} {v : Value} {zs : List Int}
theorem BldI.nil (w : World) (lo : Nat) : BldI w lo w.heap.size (.slice none 0 0) [] :=
  ⟨Nat.le_refl _, World.ownsRow_nil w lo _ 1, by intro g h; cases h⟩
theorem BldI.lit {g : Nat} {cs : Array Value} (h : Blk w g cs 2) (hcs : cs.toList = icells zs) (hm : zs.length ≤ 1048576) (hlo : lo ≤ g) (hhi : g < hi) (hs : hi ≤ w.heap.size) : BldI w lo hi (.slice (some ⟨g, 0, none⟩) zs.length zs.length) zs := by
  have hl : cs.size = zs.length := by rw [← Array.length_toList, hcs]; simp [icells]
  refine ⟨hs, ⟨by simp [icells], .inr ⟨g, zs.length, cs, rfl, hlo, h, Nat.le_refl _, by unfold maxLen; omega, by omega, ?_⟩⟩, ?_⟩
  · rw [hcs, Nat.mul_one, List.take_of_length_le (by simp [icells])]
  · intro g' hg'
    have : g = g' := by injection hg'
    omega
theorem BldI.by (hb : Below w.heap.size w w') (h : BldI w lo hi v zs) : BldI w' lo hi v zs := by
  obtain ⟨hs, h1, h3⟩ := h
  exact ⟨Nat.le_trans hs hb.size, row_same h1 (fun g hg => hb.block g (by have := h3 g hg; omega)), h3⟩
theorem BldI.past {lo' hi' : Nat} (hb : Within lo' hi' w w') (h : BldI w lo hi v zs) (hd : hi' ≤ lo ∨ hi ≤ lo') : BldI w' lo hi v zs := by
  obtain ⟨hs, h1, h3⟩ := h
  exact ⟨Nat.le_trans hs hb.size, row_same h1 (fun g hg => hb.block g (by have := h3 g hg; omega) (by have := h3 g hg; omega)), h3⟩
theorem BldI.sized (h : BldI w lo hi v zs) : ∃ a c, v = .slice a zs.length c := by
  obtain ⟨_, ⟨_, h1⟩, _⟩ := h
  rcases h1 with ⟨h1, h2⟩ | ⟨g, cap, cur, e1, _⟩
  · exact ⟨none, 0, by rw [h1, h2]⟩
  · exact ⟨_, _, e1⟩
theorem BldI.own (h : BldI w lo hi v zs) : OwnR w lo hi v zs := by
  obtain ⟨hs, ⟨hlen, h1⟩, h3⟩ := h
  rcases h1 with ⟨h1, hn⟩ | ⟨g, cap, cur, e1, e2, e3, e4, e5, e6, e7⟩
  · exact .inl ⟨_, _, h1, List.eq_nil_of_length_eq_zero hn⟩
  · have h4 := h3 g (by rw [e1]; rfl)
    refine .inr ⟨g, cap, cur, e1, h4.1, h4.2, e4, e5, e3, fun i x hx => ?_⟩
    have hi' : i < zs.length := (List.getElem?_eq_some_iff.1 hx).1
    have : (icells zs)[i]? = some (.int .i64 x) := by simp [icells, hx]
    rw [← e7, List.getElem?_take_of_lt (by omega)] at this
    simpa using this
end
theorem step_pushI {ops : Array Oper} {o : Oper} {a : Act} {w : World} {K : Act → World → Prop} {Q : Exit → Act → World → Prop} {E : Prop} (hgd : o.guard = none) (s x : Operand)
    (ho : o.op = .call { callee := .builtin .append, args := #[s, x], argTypes := #[27, 27] })
    (lo hi : Nat) (v : Value) (zs ys : List Int) (hs : a.eval s = v) (hB : BldI w lo hi v zs) (nb m : Nat) (cs : Array Value) (hx : a.eval x = .slice (some ⟨nb, 0, none⟩) m m) (hys : ys.length = m) (hm : 0 < m)
    (hnb : Blk w nb cs 2) (hcs : cs.toList = icells ys) (hlo : lo ≤ hi) (hn : zs.length + m ≤ 8000000)
    (hK : ∀ a' c' w', BldI w' lo w'.heap.size (.slice a' (zs.length + m) c') (zs ++ ys) → Within lo hi w w' → K (a.put o.dst (.slice a' (zs.length + m) c')) w') :
    if Region.wanted o (yielded ops a.tmps) = true then Oper.wp Tryz.prog o a w K Q else E := by
  obtain ⟨i0, hi0, hz0, hz1, hz2⟩ := info_parts infoI
  obtain ⟨hsz, h1, h3⟩ := hB
  refine step_append_lies w hgd s x 27 ho lo 2 i0 _ 1 8 Tryz.underlying27 hi0 hz0 hz1 hz2 rfl (by decide) v zs.length _ hs h1 ⟨nb, 0, none⟩ m m (icells ys) hx (by simp [icells, hys]) (by rw [← hcs]; exact World.news_of_block (cs := cs) hnb) ?_ hm (by unfold maxLen; omega) (by omega) (by omega) w.heap.size rfl ?_
  · intro u hu
    simp only [icells, List.mem_map] at hu
    obtain ⟨_, _, rfl⟩ := hu
    rfl
  · intro g cap w' hrow hgrow hg hgl
    have hW : Within lo hi w w' := grown_within hgrow h3
    refine hK (some ⟨g, 0, none⟩) cap w' ⟨Nat.le_refl _, ?_, ?_⟩ hW
    · rw [List.length_append, hys, icells_push]; exact hrow
    · intro g' hg'
      have : g = g' := by injection hg'
      subst this
      rcases hg with h | h
      · have := h3 g h; omega
      · omega
theorem list_pushI {ops : Array Oper} {rest : List Oper} {o : Oper} {a : Act} {w : World} {Q : Exit → Act → World → Prop} (hgd : o.guard = none) (s x : Operand)
    (ho : o.op = .call { callee := .builtin .append, args := #[s, x], argTypes := #[27, 27] })
    (lo hi : Nat) (v : Value) (zs ys : List Int) (hs : a.eval s = v) (hB : BldI w lo hi v zs) (nb m : Nat) (cs : Array Value) (hx : a.eval x = .slice (some ⟨nb, 0, none⟩) m m) (hys : ys.length = m) (hm : 0 < m)
    (hnb : Blk w nb cs 2) (hcs : cs.toList = icells ys) (hlo : lo ≤ hi) (hn : zs.length + m ≤ 8000000)
    (hK : ∀ a' c' w', BldI w' lo w'.heap.size (.slice a' (zs.length + m) c') (zs ++ ys) → Within lo hi w w' → wpList Tryz.prog ops Q rest (a.put o.dst (.slice a' (zs.length + m) c')) w') : wpList Tryz.prog ops Q (o :: rest) a w :=
  wpList_plain hgd fun K hk => by
    have h := step_pushI (ops := ops) (K := K) (Q := Q) (E := False) hgd s x ho lo hi v zs ys hs hB nb m cs hx hys hm hnb hcs hlo hn (fun a' c' w' h1 h2 => hk _ _ (hK a' c' w' h1 h2))
    rwa [if_pos (by simp [Region.wanted, hgd])] at h
theorem sgn_cases (a b : Int) : (a < b ∧ sgn a b = -1) ∨ (a = b ∧ sgn a b = 0) ∨ (b < a ∧ sgn a b = 1) := by
  rcases Int.lt_trichotomy a b with h | h | h
  · exact .inl ⟨h, sgn_lt h⟩
  · exact .inr (.inl ⟨h, sgn_eq h⟩)
  · exact .inr (.inr ⟨h, sgn_gt h⟩)
theorem lcmp_nn : lcmp [] [] = 0 := rfl
theorem lcmp_nc (b : Int) (s : List Int) : lcmp [] (b :: s) = -1 := rfl
theorem lcmp_cn (a : Int) (r : List Int) : lcmp (a :: r) [] = 1 := rfl
theorem lcmp_cc (a b : Int) (r s : List Int) : lcmp (a :: r) (b :: s) = if sgn a b = 0 then lcmp r s else sgn a b := rfl
theorem lcmp_flip : ∀ (a b : List Int), lcmp a b = - lcmp b a
  | [], [] => by simp [lcmp_nn]
  | [], _ :: _ => by rw [lcmp_nc, lcmp_cn]
  | _ :: _, [] => by rw [lcmp_nc, lcmp_cn]; rfl
  | a :: r, b :: s => by
    have ih := lcmp_flip r s
    rw [lcmp_cc, lcmp_cc]
    rcases sgn_cases a b with ⟨h, e⟩ | ⟨h, e⟩ | ⟨h, e⟩
    · rw [e, sgn_gt h]; simp
    · subst h; rw [e]; simpa using ih
    · rw [e, sgn_lt h]; simp
theorem lcmp_trans : ∀ (a b c : List Int), lcmp a b < 0 → lcmp b c < 0 → lcmp a c < 0
  | [], [], c, h, _ => by simp [lcmp_nn] at h
  | [], _ :: _, [], _, h => by simp [lcmp_cn] at h
  | [], _ :: _, _ :: _, _, _ => by simp [lcmp_nc]
  | _ :: _, [], _, h, _ => by simp [lcmp_cn] at h
  | _ :: _, _ :: _, [], _, h => by simp [lcmp_cn] at h
  | a :: r, b :: s, c :: t, h1, h2 => by
    rw [lcmp_cc] at *
    rcases sgn_cases a b with ⟨h, e⟩ | ⟨h, e⟩ | ⟨h, e⟩ <;> rcases sgn_cases b c with ⟨h', e'⟩ | ⟨h', e'⟩ | ⟨h', e'⟩ <;> rw [e] at h1 <;> rw [e'] at h2 <;> simp at h1 h2
    · rw [sgn_lt (by omega)]; simp
    · subst h'; rw [e]; simp
    · subst h; rw [e']; simp
    · subst h; rw [e']; simpa using lcmp_trans r s t h1 h2
theorem lcmp_ntrans : ∀ (a b c : List Int), 0 ≤ lcmp a b → 0 ≤ lcmp b c → 0 ≤ lcmp a c
  | [], [], c, _, h => h
  | [], _ :: _, _, h, _ => by simp [lcmp_nc] at h
  | _ :: _, [], [], _, _ => by simp [lcmp_cn]
  | _ :: _, [], _ :: _, _, h => by simp [lcmp_nc] at h
  | _ :: _, _ :: _, [], _, _ => by simp [lcmp_cn]
  | a :: r, b :: s, c :: t, h1, h2 => by
    rw [lcmp_cc] at *
    rcases sgn_cases a b with ⟨h, e⟩ | ⟨h, e⟩ | ⟨h, e⟩ <;> rcases sgn_cases b c with ⟨h', e'⟩ | ⟨h', e'⟩ | ⟨h', e'⟩ <;> rw [e] at h1 <;> rw [e'] at h2 <;> simp at h1 h2
    · subst h; rw [e']; simpa using lcmp_ntrans r s t h1 h2
    · subst h; rw [e']; simp
    · subst h'; rw [e]; simp
    · rw [sgn_gt (by omega)]; simp
theorem lcmp_self (a : List Int) : lcmp a a = 0 := (lcmp_zero a a).2 rfl
theorem lcmp_lt_of_ne {a b : List Int} (h : lcmp a b ≤ 0) (hne : a ≠ b) : lcmp a b < 0 := by
  have : lcmp a b ≠ 0 := fun e => hne ((lcmp_zero a b).1 e)
  omega
def firstAt (ls : List (List Int)) (k : Nat) : Bool := (List.range k).all fun j => decide (lcmp (ls.getD j []) (ls.getD k []) ≠ 0)
def rankTo (ls : List (List Int)) (x : List Int) (k : Nat) : Nat := (List.range k).countP fun j => firstAt ls j && decide (lcmp (ls.getD j []) x < 0)
def rankOf (ls : List (List Int)) (x : List Int) : Nat := rankTo ls x ls.length
def rankS (ls : List (List Int)) : List Int := ls.map fun x => (rankOf ls x : Int)
theorem rankTo_step (ls : List (List Int)) (x : List Int) (k : Nat) : rankTo ls x (k + 1) = rankTo ls x k + (if firstAt ls k && decide (lcmp (ls.getD k []) x < 0) then 1 else 0) := by
  simp [rankTo, List.range_succ, List.countP_append, List.countP_cons]
theorem rankTo_le (ls : List (List Int)) (x : List Int) (k : Nat) : rankTo ls x k ≤ k := by
  have := List.countP_le_length (p := fun j => firstAt ls j && decide (lcmp (ls.getD j []) x < 0)) (l := List.range k)
  simpa [rankTo] using this
theorem length_rankS (ls : List (List Int)) : (rankS ls).length = ls.length := by simp [rankS]
def fsts (ls : List (List Int)) : List (List Int) := ((List.range ls.length).filter (firstAt ls)).map fun k => ls.getD k []
theorem rankOf_fsts (ls : List (List Int)) (x : List Int) : rankOf ls x = (fsts ls).countP fun y => decide (lcmp y x < 0) := by
  unfold rankOf rankTo fsts
  rw [List.countP_map, List.countP_filter]
  congr 1
  funext j
  simp [Bool.and_comm]
theorem firstAt_iff {ls : List (List Int)} {k : Nat} : firstAt ls k = true ↔ ∀ j, j < k → ls.getD j [] ≠ ls.getD k [] := by
  simp only [firstAt, List.all_eq_true, List.mem_range, decide_eq_true_eq, ne_eq, lcmp_zero]
theorem mem_fsts {ls : List (List Int)} {x : List Int} : x ∈ fsts ls ↔ x ∈ ls := by
  simp only [fsts, List.mem_map, List.mem_filter, List.mem_range]
  constructor
  · rintro ⟨k, ⟨hk, _⟩, rfl⟩
    rw [List.getD_eq_getElem?_getD, List.getElem?_eq_getElem hk]
    exact List.getElem_mem hk
  · intro hx
    obtain ⟨k, hk, e⟩ := List.mem_iff_getElem.1 hx
    -- the least such place
    have : ∀ n k, k ≤ n → k < ls.length → ls.getD k [] = x → ∃ j, (j < ls.length ∧ firstAt ls j = true) ∧ ls.getD j [] = x := by
      intro n
      induction n with
      | zero =>
        intro k h1 h2 h3
        exact ⟨k, ⟨h2, firstAt_iff.2 (fun j hj => by omega)⟩, h3⟩
      | succ n ih =>
        intro k h1 h2 h3
        by_cases hf : firstAt ls k = true
        · exact ⟨k, ⟨h2, hf⟩, h3⟩
        · rw [firstAt_iff] at hf
          have : ∃ j, j < k ∧ ls.getD j [] = ls.getD k [] := by
            apply Classical.byContradiction
            intro hn
            exact hf (fun j hj e => hn ⟨j, hj, e⟩)
          obtain ⟨j, hj, e⟩ := this
          exact ih j (by omega) (by omega) (e.trans h3)
    exact this k k (Nat.le_refl _) hk (by rw [List.getD_eq_getElem?_getD, List.getElem?_eq_getElem hk]; exact e)
theorem nodup_fsts (ls : List (List Int)) : (fsts ls).Nodup := by
  unfold fsts List.Nodup
  rw [List.pairwise_map]
  have h : (List.range ls.length).Pairwise (fun a b => a < b) := List.pairwise_lt_range
  refine List.Pairwise.imp_of_mem ?_ (h.filter _)
  intro a b ha hb hab e
  have := firstAt_iff.1 (List.mem_filter.1 hb).2 a hab
  exact this e
theorem perm_of_mem {α : Type} [DecidableEq α] : ∀ (l r : List α), l.Nodup → r.Nodup → (∀ z, z ∈ l ↔ z ∈ r) → l.Perm r
  | [], r, _, _, h => by
    cases r with
    | nil => exact List.Perm.nil
    | cons a s => exact absurd ((h a).2 (by simp)) (by simp)
  | a :: l, r, hn, hr, h => by
    rw [List.nodup_cons] at hn
    have ha : a ∈ r := (h a).1 (by simp)
    have hp := List.perm_cons_erase ha
    have hre : (a :: r.erase a).Nodup := hp.nodup_iff.1 hr
    rw [List.nodup_cons] at hre
    refine (List.Perm.cons a (perm_of_mem l (r.erase a) hn.2 hre.2 (fun z => ?_))).trans hp.symm
    by_cases e : z = a
    · subst e; simp [hn.1, hre.1]
    · rw [List.mem_erase_of_ne e, ← h z]; simp [e]
theorem place_count : ∀ (D : List (List Int)) (x : List Int), D.Pairwise (fun a b => lcmp a b < 0) → x ∈ D → D[D.countP fun y => decide (lcmp y x < 0)]? = some x ∧ ∀ j y, j < D.countP (fun y => decide (lcmp y x < 0)) → D[j]? = some y → y ≠ x
  | [], x, _, h => by simp at h
  | d :: D, x, hp, hx => by
    rw [List.pairwise_cons] at hp
    by_cases e : d = x
    · subst e
      have hz : (d :: D).countP (fun y => decide (lcmp y d < 0)) = 0 := by
        rw [List.countP_eq_zero]
        intro y hy
        rcases List.mem_cons.1 hy with rfl | hy
        · simp [lcmp_self]
        · have := hp.1 y hy
          rw [lcmp_flip] at this
          simp; omega
      rw [hz]
      exact ⟨rfl, fun j y hj => by omega⟩
    · have hx' : x ∈ D := by
        rcases List.mem_cons.1 hx with h | h
        · exact absurd h.symm e
        · exact h
      have hd : decide (lcmp d x < 0) = true := by simpa using hp.1 x hx'
      obtain ⟨h1, h2⟩ := place_count D x hp.2 hx'
      rw [List.countP_cons_of_pos (p := fun y => decide (lcmp y x < 0)) hd]
      refine ⟨by simpa using h1, fun j y hj hy => ?_⟩
      cases j with
      | zero => simp at hy; subst hy; exact e
      | succ j => exact h2 j y (by omega) (by simpa using hy)
theorem place_rank {D ls : List (List Int)} {x : List Int} (hs : D.Pairwise (fun a b => lcmp a b < 0)) (hm : ∀ z, z ∈ D ↔ z ∈ ls) (hx : x ∈ ls) : fidx (fun y => decide (y = x)) D = rankOf ls x := by
  have hn : D.Nodup := hs.imp (fun {a b} h e => by subst e; rw [lcmp_self] at h; omega)
  have hp := perm_of_mem D (fsts ls) hn (nodup_fsts ls) (fun z => by rw [mem_fsts]; exact hm z)
  rw [rankOf_fsts, ← hp.countP_eq]
  obtain ⟨h1, h2⟩ := place_count D x hs ((hm x).2 hx)
  exact fidx_hit h1 (by simp) (fun j y hj hy => by simpa using h2 j y hj hy)
def ddpA {α : Type} [DecidableEq α] (p : α) : List α → List α
  | [] => []
  | b :: l => if b = p then ddpA b l else b :: ddpA b l
def ddp {α : Type} [DecidableEq α] : List α → List α
  | [] => []
  | a :: l => a :: ddpA a l
theorem mem_ddpA {α : Type} [DecidableEq α] (p : α) (l : List α) (z : α) : z = p ∨ z ∈ ddpA p l ↔ z = p ∨ z ∈ l := by
  induction l generalizing p with
  | nil => simp [ddpA]
  | cons b l ih =>
    unfold ddpA
    by_cases h : b = p
    · subst h
      rw [if_pos rfl, ih b]; simp
    · rw [if_neg h, List.mem_cons, List.mem_cons, ih b]
theorem mem_ddp {α : Type} [DecidableEq α] (l : List α) (z : α) : z ∈ ddp l ↔ z ∈ l := by
  cases l with
  | nil => simp [ddp]
  | cons a l => simp only [ddp, List.mem_cons]; exact mem_ddpA a l z
theorem ddpA_sorted (p : List Int) (l : List (List Int)) (h : (p :: l).Pairwise (fun a b => lcmp a b ≤ 0)) : (p :: ddpA p l).Pairwise (fun a b => lcmp a b < 0) := by
  induction l generalizing p with
  | nil => simp [ddpA]
  | cons b l ih =>
    rw [List.pairwise_cons] at h
    have hb := ih b h.2
    unfold ddpA
    by_cases e : b = p
    · subst e; rw [if_pos rfl]; exact hb
    · rw [if_neg e, List.pairwise_cons]
      have hpb : lcmp p b < 0 := lcmp_lt_of_ne (h.1 b (by simp)) (fun e' => e e'.symm)
      refine ⟨fun z hz => ?_, hb⟩
      rcases List.mem_cons.1 hz with rfl | hz
      · exact hpb
      · exact lcmp_trans p b z hpb ((List.pairwise_cons.1 hb).1 z hz)
theorem ddp_sorted {l : List (List Int)} (h : l.Pairwise (fun a b => lcmp a b ≤ 0)) : (ddp l).Pairwise (fun a b => lcmp a b < 0) := by
  cases l with
  | nil => exact List.Pairwise.nil
  | cons a l => exact ddpA_sorted a l h
/- What a walk reads of a slice of slices. -/
def LlSl (w : World) (sv : Value) (ls : List (List Int)) : Prop :=
  (∃ a c, sv = .slice a 0 c ∧ ls = []) ∨ ∃ b off cap, sv = .slice (some ⟨b, off, none⟩) ls.length cap ∧ ls.length ≤ cap ∧ cap ≤ maxLen ∧ ∀ (i : Nat) (xs : List Int), ls[i]? = some xs → ∃ s, w.cell? ⟨b, off + i, none⟩ = some s ∧ IntSl w s xs
theorem LlSl.by {w w1 : World} {sv : Value} {ls : List (List Int)} (hb : Below w.heap.size w w1) (h : LlSl w sv ls) : LlSl w1 sv ls := by
  rcases h with h | ⟨b, off, cap, h1, h2, h3, h4⟩
  · exact .inl h
  · refine .inr ⟨b, off, cap, h1, h2, h3, fun i xs hx => ?_⟩
    obtain ⟨s, a, b⟩ := h4 i xs hx
    exact ⟨s, cell_by' hb a, b.by hb⟩
theorem LlSl.sized {w : World} {sv : Value} {ls : List (List Int)} (h : LlSl w sv ls) : ∃ a c, sv = .slice a ls.length c := by
  rcases h with ⟨a, c, h1, h2⟩ | ⟨b, off, cap, h1, _⟩
  · exact ⟨a, c, by rw [h2]; exact h1⟩
  · exact ⟨_, _, h1⟩
theorem infoL : (Tryz.prog.info? 27).map (fun i => (i.zero, i.size, i.bytes)) = some (some (.slice none 0 0), 1, 24) := by kernel_rfl
theorem IntSl.old {w w' : World} {s : Value} {xs : List Int} (h : IntSl w s xs) (hb : ∀ k, k < w.heap.size → w'.heap[k]? = w.heap[k]?) : IntSl w' s xs := by
  rcases h with h | ⟨b, off, cap, h1, h2, h3, h4⟩
  · exact .inl h
  · refine .inr ⟨b, off, cap, h1, h2, h3, fun i x hx => ?_⟩
    have hc := h4 i x hx
    have hl := lt_of_cell hc
    dsimp only at hl
    rw [← hc]
    simp only [World.cell?, hb b hl]
theorem IntSl.one {w : World} {s : Value} {xs : List Int} (h : IntSl w s xs) : s.oneCell' = true := by
  rcases h with ⟨_, _, rfl, _⟩ | ⟨_, _, _, rfl, _⟩ <;> rfl
def Off (blk : Nat) (w w' : World) : Prop := ∀ k, k < w.heap.size → k ≠ blk → w'.heap[k]? = w.heap[k]?
/- slices.DeleteFunc on a slice of devices of the call's own: the plain part, and clear. -/
theorem Blk.setCells (g : Nat) {T : TypeId} : ∀ (vs : List Value) (o : Nat) (w : World) (cs : Array Value), Blk w g cs T → ∃ cs' : Array Value, Blk (w.setCells g o vs) g cs' T ∧ (∀ i, i < o → cs'[i]? = cs[i]?) ∧ Within g (g + 1) w (w.setCells g o vs)
  | [], o, w, cs, h => ⟨cs, h, fun _ _ => rfl, Within.refl _ _ _⟩
  | v :: r, o, w, cs, h => by
    obtain ⟨cs', h1, h2, h3⟩ := Blk.setCells g r (o + 1) (w.setCell ⟨g, o, none⟩ v) _ (h.set o v)
    refine ⟨cs', h1, fun i hi => ?_, (Within.off v).on h3⟩
    rw [h2 i (by omega)]
    simp [Array.getElem?_setIfInBounds, show ¬ o = i by omega]
def At4 (w : World) (cs : Array Value) (i f : Nat) (x : Dv) : Prop := ∃ pv, Cs4 cs i (.int .i64 x.kind) pv (.int .i64 x.wd) (.int .i64 x.len) ∧ OwnR w f (f + 1) pv x.pins
def DelSt (w : World) (lo hi g : Nat) (f : Nat → Nat) (xs ys : List Dv) (k : Nat) (cs : Array Value) : Prop :=
  (∃ h : Nat → Nat, (∀ i y, ys[i]? = some y → At4 w cs i (f (h i)) y ∧ (h i < k ∧ h i < xs.length) ∧ (lo ≤ f (h i) ∧ f (h i) < hi ∧ f (h i) ≠ g)) ∧ (∀ i j, i < ys.length → j < ys.length → i ≠ j → h i ≠ h j)) ∧
  (∀ i x, k ≤ i → xs[i]? = some x → At4 w cs i (f i) x ∧ (lo ≤ f i ∧ f i < hi ∧ f i ≠ g))
section
variable {w w' : World} {lo hi g k : Nat} {f : Nat → Nat} {xs ys : List Dv} {cs cs' : Array Value}
theorem Cs4.at_ {cs cs' : Array Value} {i : Nat} {a b c d : Value} (h : Cs4 cs i a b c d) (e : ∀ j, i * 4 ≤ j → j < i * 4 + 4 → cs'[j]? = cs[j]?) : Cs4 cs' i a b c d :=
  ⟨(e _ (by omega) (by omega)).trans h.1, (e _ (by omega) (by omega)).trans h.2.1, (e _ (by omega) (by omega)).trans h.2.2.1, (e _ (by omega) (by omega)).trans h.2.2.2⟩
theorem At4.at_ {i q : Nat} {x : Dv} (h : At4 w cs i q x) (e : ∀ j, i * 4 ≤ j → j < i * 4 + 4 → cs'[j]? = cs[j]?) : At4 w cs' i q x := by
  obtain ⟨pv, h1, h2⟩ := h
  exact ⟨pv, h1.at_ e, h2⟩
def set4 (cs : Array Value) (k : Nat) (a b c d : Value) : Array Value := (((cs.setIfInBounds (k * 4) a).setIfInBounds (k * 4 + 1) b).setIfInBounds (k * 4 + 2) c).setIfInBounds (k * 4 + 3) d
theorem set4_other (cs : Array Value) (k : Nat) (a b c d : Value) (j : Nat) (h : j < k * 4 ∨ k * 4 + 4 ≤ j) : (set4 cs k a b c d)[j]? = cs[j]? := by
  simp [set4, Array.getElem?_setIfInBounds, show ¬ k * 4 = j by omega, show ¬ k * 4 + 1 = j by omega, show ¬ k * 4 + 2 = j by omega, show ¬ k * 4 + 3 = j by omega]
theorem set4_same (cs : Array Value) (k : Nat) (a b c d : Value) (h : k * 4 + 3 < cs.size) : Cs4 (set4 cs k a b c d) k a b c d := by
  refine ⟨?_, ?_, ?_, ?_⟩ <;> simp [set4, Array.getElem?_setIfInBounds] <;> omega
theorem DelSt.push (h : DelSt w lo hi g f xs ys k cs) (hl : ys.length ≤ k) {x : Dv} (hx : xs[k]? = some x) {pv : Value} (hc : Cs4 cs k (.int .i64 x.kind) pv (.int .i64 x.wd) (.int .i64 x.len)) (hO : OwnR w (f k) (f k + 1) pv x.pins) :
    DelSt w lo hi g f xs (ys ++ [x]) (k + 1) (set4 cs ys.length (.int .i64 x.kind) pv (.int .i64 x.wd) (.int .i64 x.len)) := by
  obtain ⟨⟨m, h1, h2⟩, h3⟩ := h
  have hk := (List.getElem?_eq_some_iff.1 hx).1
  have hsz : ys.length * 4 + 3 < cs.size := by have := (Array.getElem?_eq_some_iff.1 hc.2.2.2).1; omega
  refine ⟨⟨fun i => if i = ys.length then k else m i, fun i y hy => ?_, fun i j hi hj hne => ?_⟩, fun i y hi hy => ?_⟩
  · dsimp only
    by_cases e : i = ys.length
    · subst e
      obtain rfl : y = x := by simpa using hy.symm
      rw [if_pos rfl]
      exact ⟨⟨pv, set4_same _ _ _ _ _ _ hsz, hO⟩, ⟨by omega, hk⟩, (h3 k y (Nat.le_refl _) hx).2⟩
    · have hi : i < ys.length := by have := (List.getElem?_eq_some_iff.1 hy).1; simp at this; omega
      rw [List.getElem?_append_left hi] at hy
      obtain ⟨a, b, c⟩ := h1 i y hy
      rw [if_neg e]
      exact ⟨a.at_ (fun j _ _ => set4_other _ _ _ _ _ _ _ (by omega)), ⟨by omega, b.2⟩, c⟩
  · simp at hi hj
    dsimp only
    have hb : ∀ i, i < ys.length → m i < k := fun i hi => (h1 i ys[i] (List.getElem?_eq_getElem hi)).2.1.1
    by_cases e : i = ys.length <;> by_cases e' : j = ys.length
    · omega
    · have := hb j (by omega); rw [if_pos e, if_neg e']; omega
    · have := hb i (by omega); rw [if_neg e, if_pos e']; omega
    · rw [if_neg e, if_neg e']; exact h2 i j (by omega) (by omega) hne
  · obtain ⟨a, b⟩ := h3 i y (by omega) hy
    exact ⟨a.at_ (fun j _ _ => set4_other _ _ _ _ _ _ _ (by omega)), b⟩
end
end Go.Proofs.YtifbffianbgeaaaGreat
