/- Slices of ports: what a walk knows of one. -/
import Derived.Test.YtpaiiaajbojmnaaGreatDevs
import Derived.Deep.Slices
namespace Go.Proofs.YtpaiiaajbojmnaaGreat
open Go.RowKit
set_option linter.unusedVariables false
set_option linter.unusedSimpArgs false

/-- A port. -/
structure Pt where
  name : ByteArray
  net : Int
/-- The two cells of a port. -/
def PtAt (w : World) (g o : Nat) (x : Pt) : Prop :=
  w.cell? ⟨g, o, none⟩ = some (.string x.name) ∧ w.cell? ⟨g, o + 1, none⟩ = some (.int .i64 x.net)
/-- A slice that reads as these ports. -/
def PtSl (w : World) (sv : Value) (xs : List Pt) : Prop :=
  (∃ a c, sv = .slice a 0 c ∧ xs = []) ∨ ∃ b off cap, sv = .slice (some ⟨b, off, none⟩) xs.length cap ∧ xs.length ≤ cap ∧ cap ≤ maxLen ∧ ∀ (i : Nat) (x : Pt), xs[i]? = some x → PtAt w b (off + i * 2) x
theorem PtAt.by {w w1 : World} {g o : Nat} {x : Pt} (hb : Below w.heap.size w w1) (h : PtAt w g o x) : PtAt w1 g o x := ⟨cell_by' hb h.1, cell_by' hb h.2⟩
theorem PtSl.by {w w1 : World} {sv : Value} {xs : List Pt} (hb : Below w.heap.size w w1) (h : PtSl w sv xs) : PtSl w1 sv xs := by
  rcases h with h | ⟨b, off, cap, h1, h2, h3, h4⟩
  · exact .inl h
  · exact .inr ⟨b, off, cap, h1, h2, h3, fun i x hx => (h4 i x hx).by hb⟩
theorem PtSl.sized {w : World} {sv : Value} {xs : List Pt} (h : PtSl w sv xs) : ∃ a c, sv = .slice a xs.length c := by
  rcases h with ⟨a, c, h1, h2⟩ | ⟨b, off, cap, h1, _⟩
  · subst h2; exact ⟨a, c, h1⟩
  · exact ⟨_, _, h1⟩
end Go.Proofs.YtpaiiaajbojmnaaGreat

/- Contracts of the functions of package laws over a port. -/
namespace Go.Proofs.YtpaiiaajbojmnaaGreat
open Go.RowKit
set_option linter.unusedVariables false
set_option linter.unusedSimpArgs false

end Go.Proofs.YtpaiiaajbojmnaaGreat

/- The size of a slice of ports. -/
namespace Go.Proofs.YtpaiiaajbojmnaaGreat
open Go.RowKit
set_option linter.unusedVariables false
set_option linter.unusedSimpArgs false

/-- What the names of the ports take up. -/
def namesAll : List Pt → Int
  | [] => 0
  | x :: xs => x.name.size + namesAll xs
theorem namesAll_nonneg : ∀ xs : List Pt, 0 ≤ namesAll xs
  | [] => by simp [namesAll]
  | x :: xs => by have := namesAll_nonneg xs; simp only [namesAll]; omega
theorem namesAll_take (xs : List Pt) (k : Nat) (x : Pt) (h : xs[k]? = some x) : namesAll (xs.take (k + 1)) = namesAll (xs.take k) + x.name.size := by
  induction xs generalizing k with
  | nil => simp at h
  | cons y ys ih =>
    cases k with
    | zero => simp at h; subst h; simp [namesAll]
    | succ k =>
      simp at h
      have := ih k h
      simp only [List.take_succ_cons, namesAll]
      omega
theorem namesAll_mono (xs : List Pt) (k : Nat) : namesAll (xs.take k) ≤ namesAll xs := by
  induction xs generalizing k with
  | nil => simp
  | cons y ys ih =>
    cases k with
    | zero => simp [namesAll]; have := namesAll_nonneg ys; omega
    | succ k => have := ih k; simp only [List.take_succ_cons, namesAll]; omega
def Pt.ok (x : Pt) : Prop := x.name.size ≤ 9223372036854775807 ∧ Fits x.net

end Go.Proofs.YtpaiiaajbojmnaaGreat

/- toPortS and eqPortS. -/
namespace Go.Proofs.YtpaiiaajbojmnaaGreat
open Go.RowKit
set_option linter.unusedVariables false
set_option linter.unusedSimpArgs false

def Cs2 (cs : Array Value) (i : Nat) (a b : Value) : Prop := cs[i * 2]? = some a ∧ cs[i * 2 + 1]? = some b
def put2 (cs : Array Value) (i : Nat) (a b : Value) : Array Value := (cs.setIfInBounds (i * 2) a).setIfInBounds (i * 2 + 1) b
theorem size_put2 (cs : Array Value) (i : Nat) (a b : Value) : (put2 cs i a b).size = cs.size := by simp [put2]
theorem put2_same (cs : Array Value) (i : Nat) (a b : Value) (h : i * 2 + 2 ≤ cs.size) : Cs2 (put2 cs i a b) i a b := by
  refine ⟨?_, ?_⟩ <;> simp only [put2, Array.getElem?_setIfInBounds, Array.size_setIfInBounds] <;> repeat (first | rw [if_pos trivial] | rw [if_pos (by omega)] | rw [if_neg (by omega)])
theorem put2_other (cs : Array Value) (i j : Nat) (a b a' b' : Value) (hne : j ≠ i) (h : Cs2 cs j a' b') : Cs2 (put2 cs i a b) j a' b' := by
  obtain ⟨h1, h2⟩ := h
  refine ⟨?_, ?_⟩ <;> simp only [put2, Array.getElem?_setIfInBounds, Array.size_setIfInBounds] <;> (repeat rw [if_neg (by omega)]) <;> assumption

/-- A block of the call's own that holds these ports, and no more. -/
def PtBlk (w : World) (g : Nat) (xs : List Pt) : Prop := ∃ cs : Array Value, Blk w g cs 65 ∧ cs.size = xs.length * 2 ∧ ∀ (i : Nat) (x : Pt), xs[i]? = some x → Cs2 cs i (.string x.name) (.int .i64 x.net)
theorem PtBlk.by {w w1 : World} {g : Nat} {xs : List Pt} (hb : Below w.heap.size w w1) (h : PtBlk w g xs) : PtBlk w1 g xs := by
  obtain ⟨cs, h1, h2⟩ := h; exact ⟨cs, Blk.by hb h1, h2⟩
theorem PtBlk.apart {w : World} {g : Nat} {xs : List Pt} (h : PtBlk w g xs) (b o : Nat) (v : Value) (hb : g ≠ b) : PtBlk (w.setCell ⟨b, o, none⟩ v) g xs := by
  obtain ⟨cs, h1, h2⟩ := h; exact ⟨cs, h1.apart b o v hb, h2⟩
theorem PtBlk.sl {w : World} {g : Nat} {xs : List Pt} (h : PtBlk w g xs) (hm : xs.length ≤ maxLen) : PtSl w (.slice (some ⟨g, 0, none⟩) xs.length xs.length) xs := by
  obtain ⟨cs, h1, h2, h3⟩ := h
  refine .inr ⟨g, 0, xs.length, rfl, Nat.le_refl _, hm, fun i x hx => ?_⟩
  obtain ⟨e1, e2⟩ := h3 i x hx
  have hc := h1.cell
  simp only [Nat.zero_add]
  exact ⟨by rw [hc]; exact e1, by rw [hc]; exact e2⟩

theorem infoPt : (Tryz.prog.info? 65).map (fun i => (i.zero, i.size, i.bytes)) = some (some (.agg #[.string ByteArray.empty, .int .i64 0]), 2, 24) := by kernel_rfl
theorem make_pt (n : Nat) (hn : n ≤ 1048576) (w : World) : ∃ cs : Array Value, cs.size = n * 2 ∧ (Instr.makeSlice 25 (.int .i64 n) (.int .i64 n)).run Tryz.prog w = .ok (.slice (some ⟨w.heap.size, 0, none⟩) n n) (w.alloc (.cells cs 65)) := by
  obtain ⟨i0, hi, hz0, hz1, hz2⟩ := info_parts infoPt
  have h := run_make (P := Tryz.prog) w 25 65 i0 _ Tryz.underlying25 hi hz0 .i64 .i64 (n : Int) (n : Int) (by omega) (by omega) (by rw [hz2]; omega) (by omega)
  simp only [Int.toNat_natCast, hz1] at h
  exact ⟨_, size_madeCells _ _, h⟩
end Go.Proofs.YtpaiiaajbojmnaaGreat

/- toPortS and eqPortS: the walks. -/
namespace Go.Proofs.YtpaiiaajbojmnaaGreat
open Go.RowKit
set_option linter.unusedVariables false
set_option linter.unusedSimpArgs false

end Go.Proofs.YtpaiiaajbojmnaaGreat

/- Contracts of the functions of package laws over netlists. -/
namespace Go.Proofs.YtpaiiaajbojmnaaGreat
open Go.RowKit
set_option linter.unusedVariables false
set_option linter.unusedSimpArgs false

def nlSize (ds : List Dv) (ps : List Pt) : Int := ds.length + pinsAll ds + ps.length + namesAll ps

end Go.Proofs.YtpaiiaajbojmnaaGreat

/- toNetlist and eqNetlist. -/
namespace Go.Proofs.YtpaiiaajbojmnaaGreat
open Go.RowKit
set_option linter.unusedVariables false
set_option linter.unusedSimpArgs false

theorem DvBlk.past {w : World} {g : Nat} {xs : List Dv} (h : DvBlk w g xs) (o : Obj) : DvBlk (w.alloc o) g xs := h.by ((Below.refl _ w).alloc (Nat.le_refl _) o)
theorem DvBlk.off {w : World} {g : Nat} {xs : List Dv} (h : DvBlk w g xs) (b o : Nat) (v : Value) (hb : b < g) : DvBlk (w.setCell ⟨b, o, none⟩ v) g xs := h.apart b o v hb

end Go.Proofs.YtpaiiaajbojmnaaGreat

/- eqNetlist over two netlists that read alike. -/
namespace Go.Proofs.YtpaiiaajbojmnaaGreat
open Go.RowKit
set_option linter.unusedVariables false
set_option linter.unusedSimpArgs false

/-- A netlist by value. -/
structure Nl where
  nets : Int
  ds : List Dv
  ps : List Pt
/-- A value that reads as this netlist. -/
def NlV (w : World) (v : Value) (x : Nl) : Prop := ∃ s1 s2, v = .agg #[.int .i64 x.nets, s1, s2] ∧ DvSl w s1 x.ds ∧ PtSl w s2 x.ps
theorem NlV.by {w w1 : World} {v : Value} {x : Nl} (hb : Below w.heap.size w w1) (h : NlV w v x) : NlV w1 v x := by
  obtain ⟨s1, s2, h1, h2, h3⟩ := h; exact ⟨s1, s2, h1, h2.by hb, h3.by hb⟩

end Go.Proofs.YtpaiiaajbojmnaaGreat

/- The opener of a netlist that came in. -/
namespace Go.Proofs.YtpaiiaajbojmnaaGreat
open Go.ChangeShapes Go.WideShapes Go.ChangeAt Go.RowKit Go.Joins Go.Deep

theorem pick_list {α : Type} (At : Nat → α → Prop) (ok : α → Prop) (len : Nat) (each : ∀ i, i < len → ∃ x, At i x ∧ ok x) : ∃ xs : List α, xs.length = len ∧ (∀ (i : Nat) x, xs[i]? = some x → At i x) ∧ ∀ r ∈ xs, ok r := by
  induction len with
  | zero => exact ⟨[], rfl, by simp, by simp⟩
  | succ n ih =>
    obtain ⟨xs, h1, h2, h3⟩ := ih (fun i hi => each i (by omega))
    obtain ⟨x, ha, ho⟩ := each n (by omega)
    refine ⟨xs ++ [x], by simp [h1], ?_, ?_⟩
    · intro i y hy
      by_cases hi : i < n
      · rw [List.getElem?_append_left (by omega)] at hy; exact h2 i y hy
      · have : i < (xs ++ [x]).length := (List.getElem?_eq_some_iff.1 hy).1
        simp [h1] at this
        obtain rfl : i = n := by omega
        rw [List.getElem?_append_right (by omega)] at hy
        simp [h1] at hy
        subst hy; exact ha
    · intro r hr
      rcases List.mem_append.1 hr with hr | hr
      · exact h3 r hr
      · simp at hr; subst hr; exact ho

/-- A netlist of package laws that came in, by value. -/
def IsNlV (W : World) (v : Value) (x : Nl) : Prop := NlV W v x ∧ Fits x.nets ∧ (∀ d ∈ x.ds, d.ok) ∧ ∀ p ∈ x.ps, p.ok
theorem cellsIs : Tryz.prog.cellsOf 28 = 1 := by kernel_rfl
theorem cellsI : Tryz.prog.cellsOf 2 = 1 := by kernel_rfl
theorem cellsStr : Tryz.prog.cellsOf 9 = 1 := by kernel_rfl

section
variable {H : Type} {enc : TypeId × Value → H} {W : World} {base : Nat} {spare : Nat → Bool} {held : Bool}
theorem i64_of_cell {fuel : Nat} {c : Value} {y : Option (DataW H × List MemPlace)} (h : DataW.trod enc Tryz.prog W base spare held fuel 2 [c] = y) (hy : y.isSome = true) : ∃ n : Int, c = .int .i64 n ∧ Fits n := by
  obtain ⟨z, rfl⟩ := Option.isSome_iff_exists.1 hy
  obtain ⟨n, e, _, wn⟩ := DataW.trod_int Tryz.underlying2 h
  simp at e
  exact ⟨n, e, wf_i64 wn⟩
theorem str_of_cell {fuel : Nat} {c : Value} {y : Option (DataW H × List MemPlace)} (h : DataW.trod enc Tryz.prog W base spare held fuel 9 [c] = y) (hy : y.isSome = true) : ∃ s : ByteArray, c = .string s ∧ s.size ≤ 9223372036854775807 := by
  obtain ⟨z, rfl⟩ := Option.isSome_iff_exists.1 hy
  obtain ⟨n, e, _, wn⟩ := DataW.trod_string Tryz.underlying9 h
  simp at e
  exact ⟨n, e, by unfold maxLen at wn; omega⟩
theorem isSome_of_len {α : Type} {xs : List α} {n i : Nat} (h : xs.length = n) (hi : i < n) : (xs[i]?).isSome = true := by
  rw [List.getElem?_eq_getElem (by omega)]; rfl

end

end Go.Proofs.YtpaiiaajbojmnaaGreat

/- Small laws on netlists for the walks of the statements. -/
namespace Go.Proofs.YtpaiiaajbojmnaaGreat
open Go.RowKit
theorem mem_pinsAll (xs : List Dv) (d : Dv) (h : d ∈ xs) : (d.pins.length : Int) ≤ pinsAll xs := by
  induction xs with
  | nil => simp at h
  | cons y ys ih =>
    have h0 := pinsAll_nonneg ys
    rcases List.mem_cons.1 h with rfl | h
    · simp only [pinsAll]; omega
    · have := ih h; simp only [pinsAll]; omega
theorem nlSize_bounds {x : Nl} (h : ¬ (1048576 : Int) < nlSize x.ds x.ps) : x.ds.length ≤ 1048576 ∧ (∀ d ∈ x.ds, d.pins.length ≤ 1048576) ∧ x.ps.length ≤ 1048576 := by
  unfold nlSize at h
  have h1 := pinsAll_nonneg x.ds
  have h2 := namesAll_nonneg x.ps
  refine ⟨by omega, fun d hd => ?_, by omega⟩
  have := mem_pinsAll x.ds d hd
  omega
theorem nlSize_nonneg (x : Nl) : 0 ≤ nlSize x.ds x.ps := by
  unfold nlSize
  have h1 := pinsAll_nonneg x.ds
  have h2 := namesAll_nonneg x.ps
  omega
theorem NlV.sized {w : World} {v : Value} {x : Nl} (h : NlV w v x) : ∃ a c a' c', v = .agg #[.int .i64 x.nets, .slice a x.ds.length c, .slice a' x.ps.length c'] := by
  obtain ⟨s1, s2, rfl, hd, hp⟩ := h
  obtain ⟨a, c, rfl⟩ := hd.sized
  obtain ⟨a', c', rfl⟩ := hp.sized
  exact ⟨a, c, a', c', rfl⟩
end Go.Proofs.YtpaiiaajbojmnaaGreat
