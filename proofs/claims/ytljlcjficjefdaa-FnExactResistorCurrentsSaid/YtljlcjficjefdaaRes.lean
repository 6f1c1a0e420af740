/- Slices of resistors: what a walk knows of one that came in, and of one that the call has made. -/
import Derived.Test.YtljlcjficjefdaaMake
import Derived.Test.YtljlcjficjefdaaBase
import Derived.Test.YtljlcjficjefdaaNetV
import Derived.Deep.RegionHeld3
namespace Go.Proofs.Ytljlcjficjefdaa
open Go.RowKit
set_option linter.unusedVariables false
set_option linter.unusedSimpArgs false

/-- The four cells of a resistor. -/
def ResAt (w : World) (g o : Nat) (x : Res) : Prop :=
  w.cell? ⟨g, o, none⟩ = some (.int .i64 x.a) ∧ w.cell? ⟨g, o + 1, none⟩ = some (.int .i64 x.b) ∧ w.cell? ⟨g, o + 2, none⟩ = some (.int .i64 x.num) ∧ w.cell? ⟨g, o + 3, none⟩ = some (.int .i64 x.den)
/-- A slice that reads as these resistors. -/
def ResSl (w : World) (sv : Value) (xs : List Res) : Prop :=
  (∃ a c, sv = .slice a 0 c ∧ xs = []) ∨ ∃ b off cap, sv = .slice (some ⟨b, off, none⟩) xs.length cap ∧ xs.length ≤ cap ∧ cap ≤ maxLen ∧ ∀ i x, xs[i]? = some x → ResAt w b (off + i * 4) x
theorem ResAt.by {w w1 : World} {g o : Nat} {x : Res} (hb : Below w.heap.size w w1) (h : ResAt w g o x) : ResAt w1 g o x :=
  ⟨cell_by' hb h.1, cell_by' hb h.2.1, cell_by' hb h.2.2.1, cell_by' hb h.2.2.2⟩
theorem ResSl.by {w w1 : World} {sv : Value} {xs : List Res} (hb : Below w.heap.size w w1) (h : ResSl w sv xs) : ResSl w1 sv xs := by
  rcases h with h | ⟨b, off, cap, h1, h2, h3, h4⟩
  · exact .inl h
  · exact .inr ⟨b, off, cap, h1, h2, h3, fun i x hx => (h4 i x hx).by hb⟩
/-- .. from an elder world, over whatever has been made since. -/
theorem ResSl.len {w : World} {sv : Value} {xs : List Res} (h : ResSl w sv xs) : ∃ a c, sv = .slice a xs.length c := by
  rcases h with ⟨a, c, h1, h2⟩ | ⟨b, off, cap, h1, _⟩
  · subst h2; exact ⟨a, c, h1⟩
  · exact ⟨_, _, h1⟩

/-- Element i of an array of cells reads as x. -/
def CsAt (cs : Array Value) (i : Nat) (x : Res) : Prop := cs[i * 4]? = some (.int .i64 x.a) ∧ cs[i * 4 + 1]? = some (.int .i64 x.b) ∧ cs[i * 4 + 2]? = some (.int .i64 x.num) ∧ cs[i * 4 + 3]? = some (.int .i64 x.den)
def putRes (cs : Array Value) (i : Nat) (x : Res) : Array Value := (((cs.setIfInBounds (i * 4) (.int .i64 x.a)).setIfInBounds (i * 4 + 1) (.int .i64 x.b)).setIfInBounds (i * 4 + 2) (.int .i64 x.num)).setIfInBounds (i * 4 + 3) (.int .i64 x.den)
theorem size_putRes (cs : Array Value) (i : Nat) (x : Res) : (putRes cs i x).size = cs.size := by simp [putRes]
theorem putRes_same (cs : Array Value) (i : Nat) (x : Res) (h : i * 4 + 4 ≤ cs.size) : CsAt (putRes cs i x) i x := by
  refine ⟨?_, ?_, ?_, ?_⟩ <;> simp only [putRes, Array.getElem?_setIfInBounds, Array.size_setIfInBounds] <;> repeat (first | rw [if_pos trivial] | rw [if_pos (by omega)] | rw [if_neg (by omega)])
theorem putRes_other (cs : Array Value) (i j : Nat) (x y : Res) (hne : j ≠ i) (h : CsAt cs j y) : CsAt (putRes cs i x) j y := by
  obtain ⟨h1, h2, h3, h4⟩ := h
  refine ⟨?_, ?_, ?_, ?_⟩ <;> simp only [putRes, Array.getElem?_setIfInBounds, Array.size_setIfInBounds] <;> (repeat rw [if_neg (by omega)]) <;> assumption

/-- A block of the call's own that holds these resistors, and no more. -/
def ResBlk (w : World) (g : Nat) (xs : List Res) : Prop := ∃ cs : Array Value, Blk w g cs 49 ∧ cs.size = xs.length * 4 ∧ ∀ i x, xs[i]? = some x → CsAt cs i x
theorem ResBlk.by {w w1 : World} {g : Nat} {xs : List Res} (hb : Below w.heap.size w w1) (h : ResBlk w g xs) : ResBlk w1 g xs := by
  obtain ⟨cs, h1, h2⟩ := h; exact ⟨cs, Blk.by hb h1, h2⟩
theorem ResBlk.sl {w : World} {g : Nat} {xs : List Res} (h : ResBlk w g xs) (hm : xs.length ≤ maxLen) : ResSl w (.slice (some ⟨g, 0, none⟩) xs.length xs.length) xs := by
  obtain ⟨cs, h1, h2, h3⟩ := h
  refine .inr ⟨g, 0, xs.length, rfl, Nat.le_refl _, hm, fun i x hx => ?_⟩
  obtain ⟨e1, e2, e3, e4⟩ := h3 i x hx
  have hc := h1.cell
  simp only [Nat.zero_add]
  exact ⟨by rw [hc]; exact e1, by rw [hc]; exact e2, by rw [hc]; exact e3, by rw [hc]; exact e4⟩

theorem szResistorS_any (sv : Value) (xs : List Res) (l : Int) (w : World) (h : ResSl w sv xs) (hl : 0 ≤ l) (hl' : l ≤ 1048576) :
    Calls Try.prog 33 #[sv, .int .i64 l] w fun e w' => e = .returned (.int .i64 (if l < xs.length then -1 else l - xs.length)) ∧ w = w' := by
  obtain ⟨a, c, rfl⟩ := h.len
  obtain ⟨r, hr⟩ : ∃ r : Int, (if l < xs.length then (-1 : Int) else l - xs.length) = r := ⟨_, rfl⟩
  rw [hr]
  have HR := Lib.hid hr
  clear hr
  have hlen : xs.length ≤ maxLen := by
    rcases h with ⟨_, _, _, h2⟩ | ⟨b, off, cap, h1, h2, h3, _⟩
    · subst h2; simp
    · exact Nat.le_trans h2 h3
  unfold maxLen at hlen
  generalize xs.length = n at *
  clear h
  by_cases hlt : l < n
  · go_enter Try.func33, Try.ntmps33
    go_wp2
    go_ret
    exact ⟨ret_i64 (by rw [← HR.out, if_pos hlt]), rfl⟩
  · go_enter Try.func33, Try.ntmps33
    go_wp2
    go_ret
    exact ⟨ret_i64 (by rw [← HR.out, if_neg (by omega)]), rfl⟩

set_option maxHeartbeats 1000000 in
theorem toResistor_any (x : Res) (w : World) :
    Calls Try.prog 56 #[.agg #[.int .i64 x.a, .int .i64 x.b, .int .i64 x.num, .int .i64 x.den]] w fun e w' => e = .returned (.agg #[.int .i64 x.a, .int .i64 x.b, .int .i64 x.num, .int .i64 x.den]) ∧ Below w.heap.size w w' := by
  go_enter Try.func56, Try.ntmps56
  go_wp2_with fail
  (refine (toRatio_any x.num x.den _).mono ?_; rintro e w1 ⟨rfl, hb1⟩; have hz1 := hb1.size; (try simp at hz1); (try (refine with_fact (p := Blk w1 (w.heap.size + 1) #[.int .i64 0, .int .i64 0, .int .i64 0, .int .i64 0] 49) (Blk.by hb1 ?_) ?_; (focus ((repeat (first | (with_reducible assumption) | (with_reducible refine Blk.drewN ?_ _) | (with_reducible refine Blk.drew ?_) | ((with_reducible refine Blk.new _ ?_); focus (first | omega | (simp; done) | (simp; omega))) | (with_reducible refine Blk.past ?_ _) | ((with_reducible refine Blk.apart ?_ _ _ _ ?_); rotate_left; focus (first | omega | (simp; done) | (simp; omega))) | (with_reducible refine Blk.by (by assumption) ?_))); done)); intro hk1_0; have hc1_0 := hk1_0.cell; have hf1_0 := hk1_0.free; have hq1_0 := hk1_0.lt)); (try (refine with_fact (p := Blk w1 (w.heap.size + 1 + 1) #[.int .i64 x.a, .int .i64 x.b, .int .i64 0, .int .i64 0] 49) (Blk.by hb1 ?_) ?_; (focus ((repeat (first | (with_reducible assumption) | (with_reducible refine Blk.drewN ?_ _) | (with_reducible refine Blk.drew ?_) | ((with_reducible refine Blk.new _ ?_); focus (first | omega | (simp; done) | (simp; omega))) | (with_reducible refine Blk.past ?_ _) | ((with_reducible refine Blk.apart ?_ _ _ _ ?_); rotate_left; focus (first | omega | (simp; done) | (simp; omega))) | (with_reducible refine Blk.by (by assumption) ?_))); done)); intro hk1_1; have hc1_1 := hk1_1.cell; have hf1_1 := hk1_1.free; have hq1_1 := hk1_1.lt)))
  go_wp2
  exact bodyPost_ret (v := .agg #[.int .i64 x.a, .int .i64 x.b, .int .i64 x.num, .int .i64 x.den]) (by simp [results, Try.results56, go_sem, *]) rfl ⟨rfl, (by ((repeat (first | (with_reducible exact Below.refl _ _) | (with_reducible refine below_drewN ?_ _) | (with_reducible refine Below.drew ?_) | (with_reducible refine below_al ?_ _) | (with_reducible refine below_on (by assumption) ?_) | ((with_reducible refine Below.setCell ?_ ?_ _); rotate_left; focus (first | omega | (simp; done) | (simp; omega))) | (with_reducible assumption))); done))⟩

set_option maxHeartbeats 1000000 in
theorem eqResistor_refl (x : Res) (w : World) :
    Calls Try.prog 57 #[.agg #[.int .i64 x.a, .int .i64 x.b, .int .i64 x.num, .int .i64 x.den], .agg #[.int .i64 x.a, .int .i64 x.b, .int .i64 x.num, .int .i64 x.den]] w fun e w' => e = .returned (.bool true) ∧ Below w.heap.size w w' := by
  go_enter Try.func57, Try.ntmps57
  go_wp2_with fail
  (refine (eqRatio_refl x.num x.den _).mono ?_; rintro e w1 ⟨rfl, hb1⟩; obtain ⟨hc1, hf1⟩ := bcell hb1; have hz1 := hb1.size; (try simp at hz1); (try have hl1 := Nat.lt_of_succ_le hz1); (try have hm1 := Nat.lt_of_succ_lt hl1); (try have hn1_ := Nat.lt_of_succ_lt hm1); (try have ho1 := Nat.lt_of_succ_lt hn1_))
  go_wp2
  go_ret
  exact ⟨rfl, (by ((repeat (first | (with_reducible exact Below.refl _ _) | (with_reducible refine below_drewN ?_ _) | (with_reducible refine Below.drew ?_) | (with_reducible refine below_al ?_ _) | (with_reducible refine below_on (by assumption) ?_) | ((with_reducible refine Below.setCell ?_ ?_ _); rotate_left; focus (first | omega | (simp; done) | (simp; omega))) | (with_reducible assumption))); done))⟩
end Go.Proofs.Ytljlcjficjefdaa
