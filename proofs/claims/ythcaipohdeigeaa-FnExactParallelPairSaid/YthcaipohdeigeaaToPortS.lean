/- toPortS and eqPortS. -/
import Derived.Test.YthcaipohdeigeaaPortS
namespace Go.Proofs.Ythcaipohdeigeaa
open Go.RowKit
set_option linter.unusedVariables false
set_option linter.unusedSimpArgs false

def Cs2 (cs : Array Value) (i : Nat) (a b : Value) : Prop := cs[i * 2]? = some a ∧ cs[i * 2 + 1]? = some b
def put2 (cs : Array Value) (i : Nat) (a b : Value) : Array Value := (cs.setIfInBounds (i * 2) a).setIfInBounds (i * 2 + 1) b
theorem size_put2 (cs : Array Value) (i : Nat) (a b : Value) : (put2 cs i a b).size = cs.size := by simp [put2]
theorem put2_same (cs : Array Value) (i : Nat) (a b : Value) (h : i * 2 + 2 ≤ cs.size) : Cs2 (put2 cs i a b) i a b := by
  refine ⟨?_, ?_⟩ <;> simp only [put2, Array.getElem?_setIfInBounds, Array.size_setIfInBounds] <;> repeat (first | rw [if_pos trivial] | rw [if_pos (by omega)] | rw [if_neg (by omega)])
theorem put2_other (cs : Array Value) (i j : Nat) (a b a' b' : Value) (hne : j ≠ i) (h : Cs2 cs j a' b') : Cs2 (put2 cs i a b) j a' b' := by
  obtain ⟨h1, h2⟩ := h
  refine ⟨?_, ?_⟩ <;> simp only [put2, Array.getElem?_setIfInBounds, Array.size_setIfInBounds] <;> (repeat rw [if_neg (by omega)]) <;> assumption

/-- A block of the call's own that holds these ports, and no more. -/
def PtBlk (w : World) (g : Nat) (xs : List Pt) : Prop := ∃ cs : Array Value, Blk w g cs 79 ∧ cs.size = xs.length * 2 ∧ ∀ (i : Nat) (x : Pt), xs[i]? = some x → Cs2 cs i (.string x.name) (.int .i64 x.net)
theorem PtBlk.by {w w1 : World} {g : Nat} {xs : List Pt} (hb : Below w.heap.size w w1) (h : PtBlk w g xs) : PtBlk w1 g xs := by
  obtain ⟨cs, h1, h2⟩ := h; exact ⟨cs, Blk.by hb h1, h2⟩
theorem PtBlk.apart {w : World} {g : Nat} {xs : List Pt} (h : PtBlk w g xs) (b o : Nat) (v : Value) (hb : g ≠ b) : PtBlk (w.setCell ⟨b, o, none⟩ v) g xs := by
  obtain ⟨cs, h1, h2⟩ := h; exact ⟨cs, h1.apart b o v hb, h2⟩
theorem PtBlk.sl {w : World} {g : Nat} {xs : List Pt} (h : PtBlk w g xs) (hm : xs.length ≤ maxLen) : PtSl w (.slice (some ⟨g, 0, none⟩) xs.length xs.length) xs := by
  obtain ⟨cs, h1, h2, h3⟩ := h
  refine .inr ⟨g, 0, xs.length, rfl, Nat.le_refl _, hm, fun i x hx => ?_⟩
  obtain ⟨e1, e2⟩ := h3 i x hx
  have hc := h1.cell
  simp only [Nat.zero_add]
  exact ⟨by rw [hc]; exact e1, by rw [hc]; exact e2⟩

theorem infoPt : (Try.prog.info? 79).map (fun i => (i.zero, i.size, i.bytes)) = some (some (.agg #[.string ByteArray.empty, .int .i64 0]), 2, 24) := by kernel_rfl
theorem make_pt (n : Nat) (hn : n ≤ 1048576) (w : World) : ∃ cs : Array Value, cs.size = n * 2 ∧ (Instr.makeSlice 41 (.int .i64 n) (.int .i64 n)).run Try.prog w = .ok (.slice (some ⟨w.heap.size, 0, none⟩) n n) (w.alloc (.cells cs 79)) := by
  obtain ⟨i0, hi, hz0, hz1, hz2⟩ := info_parts infoPt
  have h := run_make (P := Try.prog) w 41 79 i0 _ Try.underlying41 hi hz0 .i64 .i64 (n : Int) (n : Int) (by omega) (by omega) (by rw [hz2]; omega) (by omega)
  simp only [Int.toNat_natCast, hz1] at h
  exact ⟨_, size_madeCells _ _, h⟩
end Go.Proofs.Ythcaipohdeigeaa
