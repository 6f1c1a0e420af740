/- Contracts of the functions of package laws over devices. -/
import Derived.Test.YtpaiiaajbojmnaaGreatBase
namespace Go.Proofs.YtpaiiaajbojmnaaGreat
open Go.RowKit
set_option linter.unusedVariables false
set_option linter.unusedSimpArgs false

end Go.Proofs.YtpaiiaajbojmnaaGreat

/- The opener of a device that came in. -/
namespace Go.Proofs.YtpaiiaajbojmnaaGreat
open Go.ChangeShapes Go.WideShapes Go.ChangeAt Go.RowKit Go.Joins Go.Deep

theorem addr_add (b off i : Nat) : (⟨b, off, none⟩ : Addr).add i = ⟨b, off + i, none⟩ := by
  by_cases h : i = 0 <;> simp [Addr.add, h]
/-- A device of package laws that came in, by value: kind, pins, width, length. -/
def IsDevV (W : World) (v : Value) (x : Int × List Int × Int × Int) : Prop :=
  ∃ sv, v = .agg #[.int .i64 x.1, sv, .int .i64 x.2.2.1, .int .i64 x.2.2.2] ∧ IntSl W sv x.2.1 ∧ (Fits x.1 ∧ Fits x.2.2.1 ∧ Fits x.2.2.2 ∧ ∀ z ∈ x.2.1, Fits z)
section
variable {H : Type} {enc : TypeId × Value → H} {W : World} {base : Nat} {spare : Nat → Bool} {held : Bool}
/-- A cell that reads as a slice of int64. -/
theorem ints_of_cell {fuel : Nat} {c : Value} {y : DataW H × List MemPlace} (h : DataW.trod enc Tryz.prog W base spare held fuel 28 [c] = some y) : ∃ zs : List Int, IntSl W c zs ∧ ∀ z ∈ zs, Fits z := by
  rcases open_ints Tryz.underlying28 Tryz.underlying2 (by kernel_rfl) h with ⟨hcs, _⟩ | ⟨x, len, cap, zs, hcs, _, hl, hm, hz, _, hcell, hwz⟩
  · simp at hcs
    subst hcs
    exact ⟨[], .inl ⟨_, _, rfl, rfl⟩, by simp⟩
  · simp at hcs
    subst hcs
    by_cases h0 : len = 0
    · subst h0
      exact ⟨[], .inl ⟨_, _, rfl, rfl⟩, by simp⟩
    · obtain ⟨b, off, spot⟩ := x
      have hzl : len ≤ zs.length := by rw [hz]; split <;> omega
      have hspot : spot = none := by simpa [Addr.add] using World.cell?_spot (hcell 0 (by omega))
      subst hspot
      refine ⟨zs.take len, .inr ⟨b, off, cap, by rw [List.length_take, Nat.min_eq_left hzl], by rw [List.length_take, Nat.min_eq_left hzl]; exact hl, hm, fun i x hx => ?_⟩, ?_⟩
      · have hi : i < len := by
          have := (List.getElem?_eq_some_iff.1 hx).1
          rw [List.length_take] at this; omega
        rw [List.getElem?_take_of_lt hi] at hx
        have hc := hcell i (by omega)
        rw [addr_add, List.getD_eq_getElem?_getD, hx] at hc
        exact hc
      · intro z hz
        exact bounds_i64 (hwz z (List.mem_of_mem_take hz))
end

end Go.Proofs.YtpaiiaajbojmnaaGreat

/- Slices of devices: what a walk knows of one. -/
namespace Go.Proofs.YtpaiiaajbojmnaaGreat
open Go.RowKit
set_option linter.unusedVariables false
set_option linter.unusedSimpArgs false

/-- A device. -/
structure Dv where
  kind : Int
  pins : List Int
  wd : Int
  len : Int
/-- The four cells of a device. -/
def DvAt (w : World) (g o : Nat) (x : Dv) : Prop :=
  ∃ sv, w.cell? ⟨g, o, none⟩ = some (.int .i64 x.kind) ∧ w.cell? ⟨g, o + 1, none⟩ = some sv ∧ w.cell? ⟨g, o + 2, none⟩ = some (.int .i64 x.wd) ∧ w.cell? ⟨g, o + 3, none⟩ = some (.int .i64 x.len) ∧ IntSl w sv x.pins
/-- A slice that reads as these devices. -/
def DvSl (w : World) (sv : Value) (xs : List Dv) : Prop :=
  (∃ a c, sv = .slice a 0 c ∧ xs = []) ∨ ∃ b off cap, sv = .slice (some ⟨b, off, none⟩) xs.length cap ∧ xs.length ≤ cap ∧ cap ≤ maxLen ∧ ∀ (i : Nat) (x : Dv), xs[i]? = some x → DvAt w b (off + i * 4) x
def Dv.ok (x : Dv) : Prop := Fits x.kind ∧ Fits x.wd ∧ Fits x.len ∧ ∀ z ∈ x.pins, Fits z

theorem DvAt.by {w w1 : World} {g o : Nat} {x : Dv} (hb : Below w.heap.size w w1) (h : DvAt w g o x) : DvAt w1 g o x := by
  obtain ⟨sv, h1, h2, h3, h4, h5⟩ := h
  exact ⟨sv, cell_by' hb h1, cell_by' hb h2, cell_by' hb h3, cell_by' hb h4, h5.by hb⟩
theorem DvSl.by {w w1 : World} {sv : Value} {xs : List Dv} (hb : Below w.heap.size w w1) (h : DvSl w sv xs) : DvSl w1 sv xs := by
  rcases h with h | ⟨b, off, cap, h1, h2, h3, h4⟩
  · exact .inl h
  · exact .inr ⟨b, off, cap, h1, h2, h3, fun i x hx => (h4 i x hx).by hb⟩
theorem DvSl.sized {w : World} {sv : Value} {xs : List Dv} (h : DvSl w sv xs) : ∃ a c, sv = .slice a xs.length c := by
  rcases h with ⟨a, c, h1, h2⟩ | ⟨b, off, cap, h1, _⟩
  · subst h2; exact ⟨a, c, h1⟩
  · exact ⟨_, _, h1⟩

/-- What the pins of the devices take up. -/
def pinsAll : List Dv → Int
  | [] => 0
  | x :: xs => x.pins.length + pinsAll xs
theorem pinsAll_nonneg : ∀ xs : List Dv, 0 ≤ pinsAll xs
  | [] => by simp [pinsAll]
  | x :: xs => by have := pinsAll_nonneg xs; simp only [pinsAll]; omega
theorem pinsAll_take (xs : List Dv) (k : Nat) (x : Dv) (h : xs[k]? = some x) : pinsAll (xs.take (k + 1)) = pinsAll (xs.take k) + x.pins.length := by
  induction xs generalizing k with
  | nil => simp at h
  | cons y ys ih =>
    cases k with
    | zero => simp at h; subst h; simp [pinsAll]
    | succ k =>
      simp at h
      have := ih k h
      simp only [List.take_succ_cons, pinsAll]
      omega
theorem pinsAll_mono (xs : List Dv) (k : Nat) : pinsAll (xs.take k) ≤ pinsAll xs := by
  induction xs generalizing k with
  | nil => simp
  | cons y ys ih =>
    cases k with
    | zero => simp [pinsAll]; have := pinsAll_nonneg ys; omega
    | succ k => have := ih k; simp only [List.take_succ_cons, pinsAll]; omega
end Go.Proofs.YtpaiiaajbojmnaaGreat

/- The size of a slice of devices. -/
namespace Go.Proofs.YtpaiiaajbojmnaaGreat
open Go.RowKit
set_option linter.unusedVariables false
set_option linter.unusedSimpArgs false

end Go.Proofs.YtpaiiaajbojmnaaGreat

/- toDeviceS: a slice of devices of the call's own. -/
namespace Go.Proofs.YtpaiiaajbojmnaaGreat
open Go.RowKit
set_option linter.unusedVariables false
set_option linter.unusedSimpArgs false

/-- Element i of an array of cells. -/
def Cs4 (cs : Array Value) (i : Nat) (a b c d : Value) : Prop := cs[i * 4]? = some a ∧ cs[i * 4 + 1]? = some b ∧ cs[i * 4 + 2]? = some c ∧ cs[i * 4 + 3]? = some d
def put4 (cs : Array Value) (i : Nat) (a b c d : Value) : Array Value := (((cs.setIfInBounds (i * 4) a).setIfInBounds (i * 4 + 1) b).setIfInBounds (i * 4 + 2) c).setIfInBounds (i * 4 + 3) d
theorem size_put4 (cs : Array Value) (i : Nat) (a b c d : Value) : (put4 cs i a b c d).size = cs.size := by simp [put4]
theorem put4_same (cs : Array Value) (i : Nat) (a b c d : Value) (h : i * 4 + 4 ≤ cs.size) : Cs4 (put4 cs i a b c d) i a b c d := by
  refine ⟨?_, ?_, ?_, ?_⟩ <;> simp only [put4, Array.getElem?_setIfInBounds, Array.size_setIfInBounds] <;> repeat (first | rw [if_pos trivial] | rw [if_pos (by omega)] | rw [if_neg (by omega)])
theorem put4_other (cs : Array Value) (i j : Nat) (a b c d a' b' c' d' : Value) (hne : j ≠ i) (h : Cs4 cs j a' b' c' d') : Cs4 (put4 cs i a b c d) j a' b' c' d' := by
  obtain ⟨h1, h2, h3, h4⟩ := h
  refine ⟨?_, ?_, ?_, ?_⟩ <;> simp only [put4, Array.getElem?_setIfInBounds, Array.size_setIfInBounds] <;> (repeat rw [if_neg (by omega)]) <;> assumption

/-- Element i of the block's cells is this device, its pins in a block of their own behind g. -/
def DvIn (w : World) (g : Nat) (cs : Array Value) (i : Nat) (x : Dv) : Prop :=
  ∃ gp, g < gp ∧ IBlk w gp x.pins ∧ Cs4 cs i (.int .i64 x.kind) (.slice (some ⟨gp, 0, none⟩) x.pins.length x.pins.length) (.int .i64 x.wd) (.int .i64 x.len)
theorem DvIn.by {w w1 : World} {g : Nat} {cs : Array Value} {i : Nat} {x : Dv} (hb : Below w.heap.size w w1) (h : DvIn w g cs i x) : DvIn w1 g cs i x := by
  obtain ⟨gp, h1, h2, h3⟩ := h; exact ⟨gp, h1, h2.by hb, h3⟩
theorem DvIn.apart {w : World} {g : Nat} {cs : Array Value} {i : Nat} {x : Dv} (h : DvIn w g cs i x) (b o : Nat) (v : Value) (hb : b ≤ g) : DvIn (w.setCell ⟨b, o, none⟩ v) g cs i x := by
  obtain ⟨gp, h1, h2, h3⟩ := h; exact ⟨gp, h1, h2.apart _ _ _ (by omega), h3⟩
/-- A block of the call's own that holds these devices, and no more. -/
def DvBlk (w : World) (g : Nat) (xs : List Dv) : Prop := ∃ cs : Array Value, Blk w g cs 62 ∧ cs.size = xs.length * 4 ∧ ∀ (i : Nat) (x : Dv), xs[i]? = some x → DvIn w g cs i x
theorem DvBlk.by {w w1 : World} {g : Nat} {xs : List Dv} (hb : Below w.heap.size w w1) (h : DvBlk w g xs) : DvBlk w1 g xs := by
  obtain ⟨cs, h1, h2, h3⟩ := h; exact ⟨cs, Blk.by hb h1, h2, fun i x hx => (h3 i x hx).by hb⟩
theorem DvBlk.lt {w : World} {g : Nat} {xs : List Dv} (h : DvBlk w g xs) : g < w.heap.size := by
  obtain ⟨cs, h1, h2⟩ := h; exact h1.lt
theorem DvBlk.apart {w : World} {g : Nat} {xs : List Dv} (h : DvBlk w g xs) (b o : Nat) (v : Value) (hb : b < g) : DvBlk (w.setCell ⟨b, o, none⟩ v) g xs := by
  obtain ⟨cs, h1, h2, h3⟩ := h; exact ⟨cs, h1.apart b o v (by omega), h2, fun i x hx => (h3 i x hx).apart b o v (by omega)⟩

theorem infoDev : (Tryz.prog.info? 62).map (fun i => (i.zero, i.size, i.bytes)) = some (some (.agg #[.int .i64 0, .slice none 0 0, .int .i64 0, .int .i64 0]), 4, 48) := by kernel_rfl
/-- make([]impl.Device, n). -/
theorem make_dev (n : Nat) (hn : n ≤ 1048576) (w : World) : ∃ cs : Array Value, cs.size = n * 4 ∧ (Instr.makeSlice 24 (.int .i64 n) (.int .i64 n)).run Tryz.prog w = .ok (.slice (some ⟨w.heap.size, 0, none⟩) n n) (w.alloc (.cells cs 62)) := by
  obtain ⟨i0, hi, hz0, hz1, hz2⟩ := info_parts infoDev
  have h := run_make (P := Tryz.prog) w 24 62 i0 _ Tryz.underlying24 hi hz0 .i64 .i64 (n : Int) (n : Int) (by omega) (by omega) (by rw [hz2]; omega) (by omega)
  simp only [Int.toNat_natCast, hz1] at h
  exact ⟨_, size_madeCells _ _, h⟩

end Go.Proofs.YtpaiiaajbojmnaaGreat

/- eqDeviceS over two slices that read alike. -/
namespace Go.Proofs.YtpaiiaajbojmnaaGreat
open Go.RowKit
set_option linter.unusedVariables false
set_option linter.unusedSimpArgs false

theorem DvBlk.sl {w : World} {g : Nat} {xs : List Dv} (h : DvBlk w g xs) (hm : xs.length ≤ maxLen) (hp : ∀ x ∈ xs, x.pins.length ≤ 9223372036854775807) : DvSl w (.slice (some ⟨g, 0, none⟩) xs.length xs.length) xs := by
  obtain ⟨cs, h1, h2, h3⟩ := h
  refine .inr ⟨g, 0, xs.length, rfl, Nat.le_refl _, hm, fun i x hx => ?_⟩
  obtain ⟨gp, q1, q2, e1, e2, e3, e4⟩ := h3 i x hx
  have hc := h1.cell
  simp only [Nat.zero_add]
  exact ⟨_, by rw [hc]; exact e1, by rw [hc]; exact e2, by rw [hc]; exact e3, by rw [hc]; exact e4, q2.sl (hp x (List.mem_of_getElem? hx))⟩

end Go.Proofs.YtpaiiaajbojmnaaGreat

/- Contracts of the functions of package laws over a matching. -/
namespace Go.Proofs.YtpaiiaajbojmnaaGreat
open Go.RowKit
set_option linter.unusedVariables false
set_option linter.unusedSimpArgs false

/-- A value that reads as these two lists. -/
def MaV (w : World) (v : Value) (x : List Int × List Int) : Prop := ∃ s1 s2, v = .agg #[s1, s2] ∧ IntSl w s1 x.1 ∧ IntSl w s2 x.2
theorem MaV.by {w w1 : World} {v : Value} {x : List Int × List Int} (hb : Below w.heap.size w w1) (h : MaV w v x) : MaV w1 v x := by
  obtain ⟨s1, s2, h1, h2, h3⟩ := h; exact ⟨s1, s2, h1, h2.by hb, h3.by hb⟩
theorem MaV.sized {w : World} {v : Value} {x : List Int × List Int} (h : MaV w v x) : ∃ a c a' c', v = .agg #[.slice a x.1.length c, .slice a' x.2.length c'] := by
  obtain ⟨s1, s2, rfl, hd, hp⟩ := h
  obtain ⟨a, c, rfl⟩ := hd.len
  obtain ⟨a', c', rfl⟩ := hp.len
  exact ⟨a, c, a', c', rfl⟩

end Go.Proofs.YtpaiiaajbojmnaaGreat
namespace Go.Proofs.YtpaiiaajbojmnaaGreat
open Go.ChangeShapes Go.WideShapes Go.ChangeAt Go.RowKit Go.Joins Go.Deep

/-- A matching of package laws that came in, by value. -/
def IsMaV (W : World) (v : Value) (x : List Int × List Int) : Prop := MaV W v x ∧ (∀ z ∈ x.1, Fits z) ∧ ∀ z ∈ x.2, Fits z
end Go.Proofs.YtpaiiaajbojmnaaGreat
