/- Contracts and plain laws, part 2, for the statement's proof. -/
import Derived.Test.YtmmohdhkpccjbaaGreatPkNrLaw1
import Derived.Laws.BytesArg
import Derived.WalkLawsBesides
import Derived.Test.YtmmohdhkpccjbaaGreatRows
import Derived.WalkKit
import Derived.Deep.QuietTactic
import Derived.BigQuiet
import Derived.Lib.Hide
import Derived.BigRegion
import Derived.Shelf.Abstract
namespace Go.Proofs.YtmmohdhkpccjbaaGreat
open Go.RowKit
set_option linter.unusedVariables false
set_option linter.unusedSimpArgs false
/- Slices of devices and of ports in memory of the call's own. -/
def OwnDs (w : World) (lo hi : Nat) (sv : Value) (ds : List Dv) : Prop :=
  (∃ a c, sv = .slice a 0 c ∧ ds = []) ∨ ∃ (g cap : Nat) (cs : Array Value) (f : Nat → Nat), sv = .slice (some ⟨g, 0, none⟩) ds.length cap ∧ (lo ≤ g ∧ g < hi) ∧ ds.length ≤ cap ∧ cap ≤ maxLen ∧ Blk w g cs 51 ∧
    (∀ (i : Nat) (x : Dv), ds[i]? = some x → (∃ pv, Cs4 cs i (.int .i64 x.kind) pv (.int .i64 x.wd) (.int .i64 x.len) ∧ OwnR w (f i) (f i + 1) pv x.pins) ∧ (lo ≤ f i ∧ f i < hi ∧ f i ≠ g)) ∧ (∀ i j, i < ds.length → j < ds.length → i ≠ j → f i ≠ f j)
def OwnPs (w : World) (lo hi : Nat) (sv : Value) (ps : List Pt) : Prop :=
  (∃ a c, sv = .slice a 0 c ∧ ps = []) ∨ ∃ (g cap : Nat) (cs : Array Value), sv = .slice (some ⟨g, 0, none⟩) ps.length cap ∧ (lo ≤ g ∧ g < hi) ∧ ps.length ≤ cap ∧ cap ≤ maxLen ∧ Blk w g cs 89 ∧
    (∀ (i : Nat) (x : Pt), ps[i]? = some x → Cs2 cs i (.string x.name) (.int .i64 x.net))
section
variable {w w' : World} {lo hi lo' hi' : Nat} {sv : Value} {ds : List Dv} {ps : List Pt}
theorem OwnDs.by (hb : Below w.heap.size w w') (h : OwnDs w lo hi sv ds) : OwnDs w' lo hi sv ds := by
  rcases h with h | ⟨g, cap, cs, f, h1, h2, h3, h4, h5, h6, h7⟩
  · exact .inl h
  · refine .inr ⟨g, cap, cs, f, h1, h2, h3, h4, Blk.by hb h5, fun i x hx => ?_, h7⟩
    obtain ⟨⟨pv, a, b⟩, c⟩ := h6 i x hx
    exact ⟨⟨pv, a, OwnR.by hb b⟩, c⟩
theorem OwnPs.by (hb : Below w.heap.size w w') (h : OwnPs w lo hi sv ps) : OwnPs w' lo hi sv ps := by
  rcases h with h | ⟨g, cap, cs, h1, h2, h3, h4, h5, h6⟩
  · exact .inl h
  · exact .inr ⟨g, cap, cs, h1, h2, h3, h4, Blk.by hb h5, h6⟩
theorem OwnDs.past (hb : Within lo' hi' w w') (h : OwnDs w lo hi sv ds) (hd : hi ≤ lo' ∨ hi' ≤ lo) : OwnDs w' lo hi sv ds := by
  rcases h with h | ⟨g, cap, cs, f, h1, h2, h3, h4, h5, h6, h7⟩
  · exact .inl h
  · refine .inr ⟨g, cap, cs, f, h1, h2, h3, h4, hb.blk h5 (by omega), fun i x hx => ?_, h7⟩
    obtain ⟨⟨pv, a, b⟩, c⟩ := h6 i x hx
    exact ⟨⟨pv, a, OwnR.past hb b (by omega)⟩, c⟩
theorem OwnPs.past (hb : Within lo' hi' w w') (h : OwnPs w lo hi sv ps) (hd : hi ≤ lo' ∨ hi' ≤ lo) : OwnPs w' lo hi sv ps := by
  rcases h with h | ⟨g, cap, cs, h1, h2, h3, h4, h5, h6⟩
  · exact .inl h
  · exact .inr ⟨g, cap, cs, h1, h2, h3, h4, hb.blk h5 (by omega), h6⟩
theorem OwnDs.wide (h : OwnDs w lo hi sv ds) (h1 : lo' ≤ lo) (h2 : hi ≤ hi') : OwnDs w lo' hi' sv ds := by
  rcases h with h | ⟨g, cap, cs, f, e1, e2, e3, e4, e5, e6, e7⟩
  · exact .inl h
  · refine .inr ⟨g, cap, cs, f, e1, by omega, e3, e4, e5, fun i x hx => ?_, e7⟩
    obtain ⟨a, b⟩ := e6 i x hx
    exact ⟨a, by omega⟩
theorem OwnPs.wide (h : OwnPs w lo hi sv ps) (h1 : lo' ≤ lo) (h2 : hi ≤ hi') : OwnPs w lo' hi' sv ps := by
  rcases h with h | ⟨g, cap, cs, e1, e2, e3, e4, e5, e6⟩
  · exact .inl h
  · exact .inr ⟨g, cap, cs, e1, by omega, e3, e4, e5, e6⟩
theorem OwnDs.sl (h : OwnDs w lo hi sv ds) : DvSl w sv ds := by
  rcases h with h | ⟨g, cap, cs, f, h1, h2, h3, h4, h5, h6, h7⟩
  · exact .inl h
  · refine .inr ⟨g, 0, cap, h1, h3, h4, fun i x hx => ?_⟩
    obtain ⟨⟨pv, ⟨e1, e2, e3, e4⟩, b⟩, c⟩ := h6 i x hx
    have hc := h5.cell
    simp only [Nat.zero_add]
    exact ⟨pv, by rw [hc]; exact e1, by rw [hc]; exact e2, by rw [hc]; exact e3, by rw [hc]; exact e4, b.sl⟩
theorem OwnPs.sl (h : OwnPs w lo hi sv ps) : PtSl w sv ps := by
  rcases h with h | ⟨g, cap, cs, h1, h2, h3, h4, h5, h6⟩
  · exact .inl h
  · refine .inr ⟨g, 0, cap, h1, h3, h4, fun i x hx => ?_⟩
    obtain ⟨e1, e2⟩ := h6 i x hx
    have hc := h5.cell
    simp only [Nat.zero_add]
    exact ⟨by rw [hc]; exact e1, by rw [hc]; exact e2⟩
end
/- markDeviceS and heldDeviceS. -/
theorem Within.sub {lo hi lo' hi' : Nat} {w w' : World} (h : Within lo hi w w') (h1 : lo' ≤ lo) (h2 : hi ≤ hi') : Within lo' hi' w w' := ⟨h.os, h.tape, h.output, h.size, fun k hk hk' => h.block k hk (by omega)⟩
/- markPortS and heldPortS. -/
/- toDeviceS, toPortS, toNetlist: with the memory of the call's own; marking netlists. -/
/- Netlists in memory of the call's own; marking them. -/
def OwnNl (w : World) (lo hi : Nat) (v : Value) (x : Nl) : Prop := ∃ s1 s2 l1 h1 l2 h2, v = .agg #[.int .i64 x.nets, s1, s2] ∧ OwnDs w l1 h1 s1 x.ds ∧ OwnPs w l2 h2 s2 x.ps ∧ (lo ≤ l1 ∧ h1 ≤ hi) ∧ (lo ≤ l2 ∧ h2 ≤ hi) ∧ (h1 ≤ l2 ∨ h2 ≤ l1)
section
variable {w w' : World} {lo hi lo' hi' : Nat} {v : Value} {x : Nl}
theorem OwnNl.by (hb : Below w.heap.size w w') (h : OwnNl w lo hi v x) : OwnNl w' lo hi v x := by
  obtain ⟨s1, s2, l1, h1, l2, h2, e, a, b, c⟩ := h; exact ⟨s1, s2, l1, h1, l2, h2, e, a.by hb, b.by hb, c⟩
theorem OwnNl.past (hb : Within lo' hi' w w') (h : OwnNl w lo hi v x) (hd : hi ≤ lo' ∨ hi' ≤ lo) : OwnNl w' lo hi v x := by
  obtain ⟨s1, s2, l1, h1, l2, h2, e, a, b, c, d, f⟩ := h; exact ⟨s1, s2, l1, h1, l2, h2, e, a.past hb (by omega), b.past hb (by omega), c, d, f⟩
theorem OwnNl.wide (h : OwnNl w lo hi v x) (h1 : lo' ≤ lo) (h2 : hi ≤ hi') : OwnNl w lo' hi' v x := by
  obtain ⟨s1, s2, l1, h1, l2, h2, e, a, b, c, d, f⟩ := h; exact ⟨s1, s2, l1, h1, l2, h2, e, a, b, by omega, by omega, f⟩
theorem OwnNl.nl (h : OwnNl w lo hi v x) : NlV w v x := by
  obtain ⟨s1, s2, l1, h1, l2, h2, e, a, b, c⟩ := h; exact ⟨s1, s2, e, a.sl, b.sl⟩
end
theorem Within.off {g o : Nat} {w : World} (v : Value) : Within g (g + 1) w (w.setCell ⟨g, o, none⟩ v) := Within.set (Within.refl g (g + 1) w) g o v (Nat.le_refl _) (by omega)
/- What a netlist's marks come to. -/
/- Netlists of the call's own whose ports' block may lie between the blocks of the devices: marking them. -/
structure WithX (lo hi P : Nat) (w w' : World) : Prop where
  within : Within lo hi w w'
  keep : P < w.heap.size → w'.heap[P]? = w.heap[P]?
section
variable {lo hi P : Nat} {a w w' : World}
theorem WithX.refl (lo hi P : Nat) (w : World) : WithX lo hi P w w := ⟨Within.refl _ _ _, fun _ => rfl⟩
theorem WithX.set (h : WithX lo hi P a w) (g o : Nat) (v : Value) (h1 : lo ≤ g) (h2 : g < hi) (h3 : g ≠ P) : WithX lo hi P a (w.setCell ⟨g, o, none⟩ v) :=
  ⟨h.within.set g o v h1 h2, fun hp => (Below.heap_setCell w ⟨g, o, none⟩ v P (fun e => h3 e.symm)).trans (h.keep hp)⟩
theorem WithX.on (h : WithX lo hi P a w) (h' : WithX lo hi P w w') : WithX lo hi P a w' :=
  ⟨h.within.on h'.within, fun hp => (h'.keep (by have := h.within.size; omega)).trans (h.keep hp)⟩
end
def OwnDsX (w : World) (lo hi P : Nat) (sv : Value) (ds : List Dv) : Prop :=
  (∃ a c, sv = .slice a 0 c ∧ ds = []) ∨ ∃ (g cap : Nat) (cs : Array Value) (f : Nat → Nat), sv = .slice (some ⟨g, 0, none⟩) ds.length cap ∧ ((lo ≤ g ∧ g < hi) ∧ g ≠ P) ∧ ds.length ≤ cap ∧ cap ≤ maxLen ∧ Blk w g cs 51 ∧
    (∀ (i : Nat) (x : Dv), ds[i]? = some x → (∃ pv, Cs4 cs i (.int .i64 x.kind) pv (.int .i64 x.wd) (.int .i64 x.len) ∧ OwnR w (f i) (f i + 1) pv x.pins) ∧ (lo ≤ f i ∧ f i < hi ∧ f i ≠ g ∧ f i ≠ P)) ∧ (∀ i j, i < ds.length → j < ds.length → i ≠ j → f i ≠ f j)
section
variable {w w' : World} {lo hi P lo' hi' : Nat} {sv : Value} {ds : List Dv} {ps : List Pt}
theorem OwnDsX.ods (h : OwnDsX w lo hi P sv ds) : OwnDs w lo hi sv ds := by
  rcases h with h | ⟨g, cap, cs, f, h1, h2, h3, h4, h5, h6, h7⟩
  · exact .inl h
  · exact .inr ⟨g, cap, cs, f, h1, h2.1, h3, h4, h5, fun i x hx => ⟨(h6 i x hx).1, (h6 i x hx).2.1, (h6 i x hx).2.2.1, (h6 i x hx).2.2.2.1⟩, h7⟩
theorem OwnDsX.by (hb : Below w.heap.size w w') (h : OwnDsX w lo hi P sv ds) : OwnDsX w' lo hi P sv ds := by
  rcases h with h | ⟨g, cap, cs, f, h1, h2, h3, h4, h5, h6, h7⟩
  · exact .inl h
  · refine .inr ⟨g, cap, cs, f, h1, h2, h3, h4, Blk.by hb h5, fun i x hx => ?_, h7⟩
    obtain ⟨⟨pv, a, b⟩, c⟩ := h6 i x hx
    exact ⟨⟨pv, a, OwnR.by hb b⟩, c⟩
theorem OwnDsX.past (hb : Within lo' hi' w w') (h : OwnDsX w lo hi P sv ds) (hd : hi ≤ lo' ∨ hi' ≤ lo) : OwnDsX w' lo hi P sv ds := by
  rcases h with h | ⟨g, cap, cs, f, h1, h2, h3, h4, h5, h6, h7⟩
  · exact .inl h
  · refine .inr ⟨g, cap, cs, f, h1, h2, h3, h4, hb.blk h5 (by omega), fun i x hx => ?_, h7⟩
    obtain ⟨⟨pv, a, b⟩, c⟩ := h6 i x hx
    exact ⟨⟨pv, a, OwnR.past hb b (by omega)⟩, c⟩
theorem OwnDsX.off (h : OwnDsX w lo hi P sv ds) (hb : Within P (P + 1) w w') : OwnDsX w' lo hi P sv ds := by
  rcases h with h | ⟨g, cap, cs, f, h1, h2, h3, h4, h5, h6, h7⟩
  · exact .inl h
  · refine .inr ⟨g, cap, cs, f, h1, h2, h3, h4, hb.blk h5 (by omega), fun i x hx => ?_, h7⟩
    obtain ⟨⟨pv, a, b⟩, c⟩ := h6 i x hx
    exact ⟨⟨pv, a, OwnR.past hb b (by omega)⟩, c⟩
theorem OwnDsX.wide (h : OwnDsX w lo hi P sv ds) (h1 : lo' ≤ lo) (h2 : hi ≤ hi') : OwnDsX w lo' hi' P sv ds := by
  rcases h with h | ⟨g, cap, cs, f, e1, e2, e3, e4, e5, e6, e7⟩
  · exact .inl h
  · refine .inr ⟨g, cap, cs, f, e1, by omega, e3, e4, e5, fun i x hx => ?_, e7⟩
    obtain ⟨a, b⟩ := e6 i x hx
    exact ⟨a, by omega⟩
theorem OwnPs.at (h : OwnPs w lo hi sv ps) (hl : lo < hi) : ∃ P, OwnPs w P (P + 1) sv ps ∧ lo ≤ P ∧ P < hi := by
  rcases h with h | ⟨g, cap, cs, h1, h2, h3, h4, h5, h6⟩
  · exact ⟨lo, .inl h, Nat.le_refl _, hl⟩
  · exact ⟨g, .inr ⟨g, cap, cs, h1, by omega, h3, h4, h5, h6⟩, h2.1, h2.2⟩
end
def OwnNlX (w : World) (lo hi : Nat) (v : Value) (x : Nl) : Prop := ∃ s1 s2 P, v = .agg #[.int .i64 x.nets, s1, s2] ∧ OwnDsX w lo hi P s1 x.ds ∧ OwnPs w P (P + 1) s2 x.ps ∧ (lo ≤ P ∧ P < hi)
section
variable {w w' : World} {lo hi lo' hi' : Nat} {v : Value} {x : Nl}
theorem OwnNlX.by (hb : Below w.heap.size w w') (h : OwnNlX w lo hi v x) : OwnNlX w' lo hi v x := by
  obtain ⟨s1, s2, P, e, a, b, c⟩ := h; exact ⟨s1, s2, P, e, a.by hb, b.by hb, c⟩
theorem OwnNlX.past (hb : Within lo' hi' w w') (h : OwnNlX w lo hi v x) (hd : hi ≤ lo' ∨ hi' ≤ lo) : OwnNlX w' lo hi v x := by
  obtain ⟨s1, s2, P, e, a, b, c⟩ := h; exact ⟨s1, s2, P, e, a.past hb hd, b.past hb (by omega), c⟩
theorem OwnNlX.wide (h : OwnNlX w lo hi v x) (h1 : lo' ≤ lo) (h2 : hi ≤ hi') : OwnNlX w lo' hi' v x := by
  obtain ⟨s1, s2, P, e, a, b, c⟩ := h; exact ⟨s1, s2, P, e, a.wide h1 h2, b, by omega⟩
theorem OwnNlX.nl (h : OwnNlX w lo hi v x) : NlV w v x := by
  obtain ⟨s1, s2, P, e, a, b, c⟩ := h; exact ⟨s1, s2, e, a.ods.sl, b.sl⟩
end
theorem gcd_tstep (a b : Int) : Int.gcd b (a.tmod b) = Int.gcd a b := by
  unfold Int.gcd
  rw [Int.natAbs_tmod, Nat.gcd_comm a.natAbs b.natAbs, Nat.gcd_rec b.natAbs a.natAbs, Nat.gcd_comm]
theorem gcd_step (a b : Int) (ha : 0 ≤ a) : Int.gcd b (a % b) = Int.gcd a b := by
  rw [← Int.tmod_eq_emod_of_nonneg ha]; exact gcd_tstep a b
def inB (x a b : Int) : Bool := decide (a ≤ x ∧ x ≤ b)
theorem inB_iff {x a b : Int} : inB x a b = true ↔ a ≤ x ∧ x ≤ b := by simp [inB]
theorem inB_not {x a b : Int} : inB x a b = false ↔ ¬ (a ≤ x ∧ x ≤ b) := by simp [inB]
def redN (n d : Int) : Int := (if d < 0 then -n else n).tdiv (Int.gcd n d : Nat)
def redD (n d : Int) : Int := (if d < 0 then -d else d).tdiv (Int.gcd n d : Nat)
theorem redN_lt (n : Int) {d : Int} (h : d < 0) : redN n d = -n.tdiv (Int.gcd n d : Nat) := by unfold redN; rw [if_pos h, Int.neg_tdiv]
theorem redD_lt (n : Int) {d : Int} (h : d < 0) : redD n d = -d.tdiv (Int.gcd n d : Nat) := by unfold redD; rw [if_pos h, Int.neg_tdiv]
theorem redN_ge (n : Int) {d : Int} (h : 0 ≤ d) : redN n d = n.tdiv (Int.gcd n d : Nat) := by unfold redN; rw [if_neg (by omega)]
theorem redD_ge (n : Int) {d : Int} (h : 0 ≤ d) : redD n d = d.tdiv (Int.gcd n d : Nat) := by unfold redD; rw [if_neg (by omega)]
theorem gcd_pos_of (n d : Int) (h : d ≠ 0) : 0 < Int.gcd n d := by
  rcases Nat.eq_zero_or_pos (Int.gcd n d) with h0 | h0
  · exact absurd (Int.gcd_eq_zero_iff.1 h0).2 h
  · exact h0
theorem gcd_le_of (n d : Int) (h : d ≠ 0) : (Int.gcd n d : Int) ≤ d.natAbs := by
  have := Nat.le_of_dvd (by omega) (Int.gcd_dvd_natAbs_right n d)
  omega
theorem gcd_abs (n d : Int) : Int.gcd (n.natAbs : Int) d = Int.gcd n d := by
  unfold Int.gcd; simp
theorem tdiv_bd (n g : Int) (h : 0 < g) (M : Int) (h1 : -M ≤ n) (h2 : n ≤ M) : -M ≤ n.tdiv g ∧ n.tdiv g ≤ M := by
  rcases Int.le_total 0 n with hn | hn
  · rw [Int.tdiv_eq_ediv_of_nonneg hn]
    have := Int.ediv_nonneg hn (by omega : 0 ≤ g)
    have := Int.ediv_le_self g hn
    omega
  · have e : n = -(-n) := by omega
    rw [e, Int.neg_tdiv, Int.tdiv_eq_ediv_of_nonneg (by omega)]
    have := Int.ediv_nonneg (by omega : 0 ≤ -n) (by omega : 0 ≤ g)
    have := Int.ediv_le_self g (by omega : 0 ≤ -n)
    omega
def vrB (n d : Int) : Bool := decide (0 < d) && decide (Int.gcd n d = 1)
theorem vrB_pos {n d : Int} (h : vrB n d = true) : 0 < d := by simp [vrB] at h; exact h.1
theorem vrB_neg (n : Int) {d : Int} (h : d ≤ 0) : vrB n d = false := by simp [vrB]; intro h'; omega
theorem vrB_of (n : Int) {d : Int} (h : 0 < d) : vrB n d = decide (Int.gcd n d = 1) := by simp [vrB, h]
/- Contracts of the two functions that reckon the greatest common divisor, of the sign's removal, of the two interval tests, and of the validity test of a ratio. -/
set_option maxHeartbeats 400000 in
theorem l26Gcd_any (a b : Int) (w : World) (ha : 0 ≤ a) (ha' : a ≤ 9223372036854775807) (hb : 0 ≤ b) (hb' : b ≤ 9223372036854775807) :
    Calls Tryz.prog 91 #[.int .i64 a, .int .i64 b] w fun e w' => e = .returned (.int .i64 (Int.gcd a b : Nat)) ∧ ∃ n, w' = w.drewN n := by
  go_enter Tryz.func91, Tryz.ntmps91
  go_wp2
  go_loopw [0, 1] (fun x y wr => ∃ p q : Int, ∃ n : Nat, x = .int .i64 p ∧ y = .int .i64 q ∧ 0 ≤ p ∧ p ≤ 9223372036854775807 ∧ 0 ≤ q ∧ q ≤ 9223372036854775807 ∧ Int.gcd p q = Int.gcd a b ∧ wr = w.drewN n) (fun _ y _ => (intOf y).toNat)
  case atStart => exact ⟨a, b, 0, rfl, rfl, ha, ha', hb, hb', rfl, rfl⟩
  case round =>
    obtain ⟨p, q, n, rfl, rfl, hp, hp', hq, hq', hg, rfl⟩ := hrel
    have HG := Lib.hid hg
    clear hg
    by_cases hlt : 0 < q
    · have h1 := Int.emod_nonneg p (show q ≠ 0 by omega)
      have h2 := Int.emod_lt_of_pos p hlt
      go_wp2
      go_quiet (fail)
      go_wp2
      exact ⟨⟨q, p % q, n + nq, rfl, rfl, hq, hq', h1, by omega, by rw [gcd_step p q hp]; exact HG.out, World.drewN_drewN _ _ _⟩, by simp [intOf]; omega⟩
    · have h0 : q = 0 := by omega
      subst h0
      have h3 : (p.gcd 0 : Int) = p := by rw [Int.gcd_zero_right]; omega
      have h4 := HG.out
      go_wp2
      go_ret
      exact ⟨ret_i64 (by rw [← h4]; exact h3.symm), n, rfl⟩
set_option maxHeartbeats 400000 in
theorem divisor_any (a b : Int) (w : World) (ha : 0 ≤ a) (ha' : a ≤ 18446744073709551615) (hb : 0 ≤ b) (hb' : b ≤ 18446744073709551615) :
    Calls Tryz.prog 111 #[.int .u64 a, .int .u64 b] w fun e w' => e = .returned (.int .u64 (Int.gcd a b : Nat)) ∧ ∃ n, w' = w.drewN n := by
  go_enter Tryz.func111, Tryz.ntmps111
  go_wp2
  go_loopw [0, 1] (fun x y wr => ∃ p q : Int, ∃ n : Nat, x = .int .u64 p ∧ y = .int .u64 q ∧ 0 ≤ p ∧ p ≤ 18446744073709551615 ∧ 0 ≤ q ∧ q ≤ 18446744073709551615 ∧ Int.gcd p q = Int.gcd a b ∧ wr = w.drewN n) (fun _ y _ => (intOf y).toNat)
  case atStart => exact ⟨a, b, 0, rfl, rfl, ha, ha', hb, hb', rfl, rfl⟩
  case round =>
    obtain ⟨p, q, n, rfl, rfl, hp, hp', hq, hq', hg, rfl⟩ := hrel
    have HG := Lib.hid hg
    clear hg
    by_cases hlt : 0 < q
    · have h1 := Int.emod_nonneg p (show q ≠ 0 by omega)
      have h2 := Int.emod_lt_of_pos p hlt
      go_wp2
      go_quiet (fail)
      go_wp2
      exact ⟨⟨q, p % q, n + nq, rfl, rfl, hq, hq', h1, by omega, by rw [gcd_step p q hp]; exact HG.out, World.drewN_drewN _ _ _⟩, by simp [intOf]; omega⟩
    · have h0 : q = 0 := by omega
      subst h0
      have h3 : (p.gcd 0 : Int) = p := by rw [Int.gcd_zero_right]; omega
      have h4 := HG.out
      go_wp2
      go_ret
      exact ⟨ret_u64 (by rw [← h4]; exact h3.symm), n, rfl⟩
theorem u64_neg (a : Int) (h : a < 0) (ha : -9223372036854775808 ≤ a) : IntKind.u64.wrap (-IntKind.u64.wrap a) = a.natAbs := by
  simp [IntKind.wrap, IntKind.bits, IntKind.signed]; omega
theorem absolute_any (a : Int) (w : World) (ha : -9223372036854775808 ≤ a) (ha' : a ≤ 9223372036854775807) :
    Calls Tryz.prog 112 #[.int .i64 a] w fun e w' => e = .returned (.int .u64 (a.natAbs : Int)) ∧ w = w' := by
  by_cases h : a < 0
  · go_enter Tryz.func112, Tryz.ntmps112
    go_wp2
    go_ret
    exact ⟨ret_u64 (u64_neg a h ha), rfl⟩
  · go_enter Tryz.func112, Tryz.ntmps112
    go_wp2
    go_ret
    exact ⟨ret_u64 (by omega), rfl⟩
theorem l16In_any (x a b : Int) (w : World) :
    Calls Tryz.prog 48 #[.int .i64 x, .int .i64 a, .int .i64 b] w fun e w' => e = .returned (.bool (inB x a b)) ∧ w = w' := by
  go_enter Tryz.func48, Tryz.ntmps48
  go_wp2
  all_goals (go_ret; exact ⟨ret_bool (by simp [inB, *]; try omega), rfl⟩)
theorem within_any (x a b : Int) (w : World) :
    Calls Tryz.prog 60 #[.int .i64 x, .int .i64 a, .int .i64 b] w fun e w' => e = .returned (.bool (inB x a b)) ∧ w = w' := by
  go_enter Tryz.func60, Tryz.ntmps60
  go_wp2
  all_goals (go_ret; exact ⟨ret_bool (by simp [inB, *]; try omega), rfl⟩)
theorem l26Gcd_as (a b : Int) (g : Nat) (w : World) (hg : Int.gcd a b = g) (ha : 0 ≤ a) (ha' : a ≤ 9223372036854775807) (hb : 0 ≤ b) (hb' : b ≤ 9223372036854775807) :
    Calls Tryz.prog 91 #[.int .i64 a, .int .i64 b] w fun e w' => e = .returned (.int .i64 (g : Nat)) ∧ ∃ n, w' = w.drewN n := by
  subst hg; exact l26Gcd_any a b w ha ha' hb hb'
theorem divisor_as (a b : Int) (g : Nat) (w : World) (hg : Int.gcd a b = g) (ha : 0 ≤ a) (ha' : a ≤ 18446744073709551615) (hb : 0 ≤ b) (hb' : b ≤ 18446744073709551615) :
    Calls Tryz.prog 111 #[.int .u64 a, .int .u64 b] w fun e w' => e = .returned (.int .u64 (g : Nat)) ∧ ∃ n, w' = w.drewN n := by
  subst hg; exact divisor_any a b w ha ha' hb hb'
set_option maxHeartbeats 1000000 in
theorem validRatio_any (n d : Int) (w : World) (hn : -9223372036854775808 ≤ n) (hn' : n ≤ 9223372036854775807) (hd : -9223372036854775808 ≤ d) (hd' : d ≤ 9223372036854775807) :
    Calls Tryz.prog 71 #[.agg #[.int .i64 n, .int .i64 d]] w fun e w' => e = .returned (.bool (vrB n d)) ∧ Below w.heap.size w w' := by
  by_cases h0 : 0 < d
  · rw [vrB_of n h0]
    have e1 := Lib.hid (show Int.gcd (n.natAbs : Int) d = n.gcd d from by simp [gcd_abs])
    go_enter Tryz.func71, Tryz.ntmps71
    go_wp2
    go_quiet ((first | (go_at_call 112; exact Calls.quiet_of_same ((absolute_any n _ hn hn').mono fun _ _ h => ⟨h.1, h.2.symm⟩)) | (go_at_call 111; exact Calls.quiet_of (divisor_as _ _ (n.gcd d) _ e1.out (by omega) (by omega) (by omega) (by omega)))))
    go_wp2
    go_ret
    exact ⟨ret_bool (by rw [Bool.eq_iff_iff]; simp; omega), blwT⟩
  · rw [vrB_neg n (by omega)]
    have hx : decide (d > 0) = false := by simp; omega
    go_enter Tryz.func71, Tryz.ntmps71
    go_wp2
    go_quiet (fail)
    go_wp2
    go_ret
    exact ⟨rfl, blwT⟩
theorem validRatio_is (n d : Int) (b : Bool) (w : World) (h : vrB n d = b) (hn : -9223372036854775808 ≤ n) (hn' : n ≤ 9223372036854775807) (hd : -9223372036854775808 ≤ d) (hd' : d ≤ 9223372036854775807) :
    Calls Tryz.prog 71 #[.agg #[.int .i64 n, .int .i64 d]] w fun e w' => e = .returned (.bool b) ∧ Below w.heap.size w w' := h ▸ validRatio_any n d w hn hn' hd hd'
/- When a device is valid: plain. -/
def pinsOf (kind : Int) : Nat := if kind = 2 then 2 else 3
def dvB (nets : Int) (x : Dv) : Bool :=
  inB x.kind 0 2 && (decide (x.pins.length = pinsOf x.kind) && (inB x.wd 1 1000000 && (inB x.len 1 1000000 && (x.pins.all (fun p => inB p 0 (nets - 1)) && (decide (x.kind ≠ 2) || decide (Int.gcd x.wd x.len = 1))))))
section
variable {nets : Int} {x : Dv}
theorem dvB_kind (h : inB x.kind 0 2 = false) : dvB nets x = false := by simp [dvB, h]
theorem dvB_len (h : x.pins.length ≠ pinsOf x.kind) : dvB nets x = false := by simp [dvB, h]
theorem dvB_wd (h : inB x.wd 1 1000000 = false) : dvB nets x = false := by simp [dvB, h]
theorem dvB_lg (h : inB x.len 1 1000000 = false) : dvB nets x = false := by simp [dvB, h]
theorem dvB_pin {k : Nat} {p : Int} (hk : x.pins[k]? = some p) (h : inB p 0 (nets - 1) = false) : dvB nets x = false := by
  have : x.pins.all (fun p => inB p 0 (nets - 1)) = false := by
    rw [List.all_eq_false]; exact ⟨p, List.mem_of_getElem? hk, by simp [h]⟩
  simp [dvB, this]
theorem dvB_end (h1 : inB x.kind 0 2 = true) (h2 : x.pins.length = pinsOf x.kind) (h3 : inB x.wd 1 1000000 = true) (h4 : inB x.len 1 1000000 = true) (h5 : x.pins.all (fun p => inB p 0 (nets - 1)) = true) :
    dvB nets x = (decide (x.kind ≠ 2) || decide (Int.gcd x.wd x.len = 1)) := by simp [dvB, h1, h2, h3, h4, h5]
theorem dvB_all (h : dvB nets x = true) : inB x.kind 0 2 = true ∧ x.pins.length = pinsOf x.kind ∧ inB x.wd 1 1000000 = true ∧ inB x.len 1 1000000 = true ∧ (∀ p ∈ x.pins, inB p 0 (nets - 1) = true) ∧ (x.kind ≠ 2 ∨ Int.gcd x.wd x.len = 1) := by
  simpa [dvB] using h
end
/- Names: the two IsName. -/
def chB (c : UInt8) : Bool := decide ((97 ≤ (c.toNat : Int) ∧ (c.toNat : Int) ≤ 122) ∨ (48 ≤ (c.toNat : Int) ∧ (c.toNat : Int) ≤ 57))
def nameB (s : ByteArray) : Bool := s.data.toList.all chB && decide (1 ≤ s.size ∧ s.size ≤ 8)
theorem all_at (s : ByteArray) (k : Nat) (h : k < s.size) (hp : chB s[k] = false) : nameB s = false := by
  have : s.data.toList.all chB = false := by
    rw [List.all_eq_false]
    refine ⟨s[k], ?_, by simp [hp]⟩
    exact Array.mem_toList_iff.2 (Array.getElem_mem (xs := s.data) h)
  simp [nameB, this]
theorem all_of (s : ByteArray) (h : ∀ (k : Nat) (hk : k < s.size), chB s[k] = true) : nameB s = decide (1 ≤ s.size ∧ s.size ≤ 8) := by
  have : s.data.toList.all chB = true := by
    rw [List.all_eq_true]
    intro x hx
    obtain ⟨k, hk, rfl⟩ := List.mem_iff_getElem.1 hx
    exact h k (by simpa using hk)
  simp [nameB, this]
set_option maxRecDepth 100000 in
set_option maxHeartbeats 1000000 in
theorem specIsName_any (s : ByteArray) (w : World) (hs : s.size ≤ 9223372036854775807) :
    Calls Tryz.prog 50 #[.string s] w fun e w' => e = .returned (.bool (nameB s)) ∧ w = w' := by
  have HN := Lib.hid (all_at s)
  have HA := Lib.hid (all_of s)
  generalize nameB s = r at *
  go_enter Tryz.func50, Tryz.ntmps50
  go_wp2
  go_loop [3] (fun i => ∃ k : Nat, k ≤ s.size ∧ i = .int .i64 k ∧ Hid (∀ (j : Nat) (hj : j < s.size), j < k → chB s[j] = true)) (fun i => s.size - (intOf i).toNat)
  case atStart => exact ⟨0, Nat.zero_le _, rfl, Lib.hid (by intro j _ h; omega)⟩
  case round =>
    obtain ⟨k, hk, rfl, HK⟩ := hrel
    by_cases hlt : k < s.size
    · have hc0 : (0 : Int) ≤ (s[k].toNat : Int) := by omega
      by_cases hch : chB s[k] = true
      · have HE := Lib.hid hch
        simp only [chB, decide_eq_true_eq] at hch
        rcases hch with ⟨h1, h2⟩ | ⟨h1, h2⟩
        all_goals
          go_wp2
          go_round
          case rel => exact ⟨k + 1, by omega, by go_num, Lib.hid (fun j hj hjk => by
            by_cases e : j = k
            · subst e; exact HE.out
            · exact HK.out j hj (by omega))⟩
          case measure => simp [intOf]; omega
      · have hr := Lib.hid (HN.out k hlt (by simpa using hch))
        simp only [chB, decide_eq_true_eq, not_or, not_and] at hch
        have hq : ((s[k].toNat : Int) < 48) ∨ ((57 : Int) < (s[k].toNat : Int) ∧ (s[k].toNat : Int) < 97) ∨ ((122 : Int) < (s[k].toNat : Int)) := by omega
        clear hch
        rcases hq with h1 | ⟨h1, h2⟩ | h1
        all_goals
          go_wp2
          all_goals first
            | (exfalso; simp only [Bool.not_eq_false', Bool.not_eq_eq_eq_not, Bool.not_false, Bool.not_true, decide_eq_true_eq] at *; omega)
            | (go_ret; exact ⟨ret_bool hr.out.symm, rfl⟩)
    · obtain rfl : k = s.size := by omega
      have hr := Lib.hid (HA.out (fun j hj => HK.out j hj hj))
      go_wp2
      all_goals
        go_ret
        exact ⟨ret_bool (by rw [hr.out, Bool.eq_iff_iff]; simp; omega), rfl⟩
set_option maxRecDepth 100000 in
set_option maxHeartbeats 1000000 in
theorem implIsName_any (s : ByteArray) (w : World) (hs : s.size ≤ 9223372036854775807) :
    Calls Tryz.prog 61 #[.string s] w fun e w' => e = .returned (.bool (nameB s)) ∧ w = w' := by
  have HN := Lib.hid (all_at s)
  have HA := Lib.hid (all_of s)
  generalize nameB s = r at *
  go_enter Tryz.func61, Tryz.ntmps61
  go_wp2
  go_loop [3] (fun i => ∃ k : Nat, k ≤ s.size ∧ i = .int .i64 k ∧ Hid (∀ (j : Nat) (hj : j < s.size), j < k → chB s[j] = true)) (fun i => s.size - (intOf i).toNat)
  case atStart => exact ⟨0, Nat.zero_le _, rfl, Lib.hid (by intro j _ h; omega)⟩
  case round =>
    obtain ⟨k, hk, rfl, HK⟩ := hrel
    by_cases hlt : k < s.size
    · have hc0 : (0 : Int) ≤ (s[k].toNat : Int) := by omega
      by_cases hch : chB s[k] = true
      · have HE := Lib.hid hch
        simp only [chB, decide_eq_true_eq] at hch
        rcases hch with ⟨h1, h2⟩ | ⟨h1, h2⟩
        all_goals
          go_wp2
          go_round
          case rel => exact ⟨k + 1, by omega, by go_num, Lib.hid (fun j hj hjk => by
            by_cases e : j = k
            · subst e; exact HE.out
            · exact HK.out j hj (by omega))⟩
          case measure => simp [intOf]; omega
      · have hr := Lib.hid (HN.out k hlt (by simpa using hch))
        simp only [chB, decide_eq_true_eq, not_or, not_and] at hch
        have hq : ((s[k].toNat : Int) < 48) ∨ ((57 : Int) < (s[k].toNat : Int) ∧ (s[k].toNat : Int) < 97) ∨ ((122 : Int) < (s[k].toNat : Int)) := by omega
        clear hch
        rcases hq with h1 | ⟨h1, h2⟩ | h1
        all_goals
          go_wp2
          all_goals first
            | (exfalso; simp only [Bool.not_eq_false', Bool.not_eq_eq_eq_not, Bool.not_false, Bool.not_true, decide_eq_true_eq] at *; omega)
            | (go_ret; exact ⟨ret_bool hr.out.symm, rfl⟩)
    · obtain rfl : k = s.size := by omega
      have hr := Lib.hid (HA.out (fun j hj => HK.out j hj hj))
      go_wp2
      all_goals
        go_ret
        exact ⟨ret_bool (by rw [hr.out, Bool.eq_iff_iff]; simp; omega), rfl⟩
/- When a netlist is valid: plain. -/
def ltS (a b : ByteArray) : Bool := Op.bytesLess a.toList b.toList
def ptOk (nets : Int) (ps : List Pt) (i : Nat) : Bool :=
  match ps[i]? with
  | none => true
  | some x => nameB x.name && (inB x.net 0 (nets - 1) && (match i with | 0 => true | j + 1 => match ps[j]? with | some y => ltS y.name x.name | none => true))
def ptsB (nets : Int) (ps : List Pt) : Bool := (List.range ps.length).all (ptOk nets ps)
def nlB (x : Nl) : Bool := inB x.nets 0 24 && (decide (x.ds.length ≤ 24) && (decide (x.ps.length ≤ 8) && (x.ds.all (dvB x.nets) && ptsB x.nets x.ps)))
section
variable {nets : Int} {ps : List Pt} {x y : Pt} {i : Nat}
theorem ptOk_name (h : ps[i]? = some x) (hn : nameB x.name = false) : ptOk nets ps i = false := by unfold ptOk; rw [h]; simp [hn]
theorem ptOk_net (h : ps[i]? = some x) (hn : inB x.net 0 (nets - 1) = false) : ptOk nets ps i = false := by unfold ptOk; rw [h]; simp [hn]
theorem ptOk_lt (h : ps[i + 1]? = some x) (h' : ps[i]? = some y) (hn : Op.bytesLess y.name.toList x.name.toList = false) : ptOk nets ps (i + 1) = false := by unfold ptOk; rw [h]; simp [h', ltS, hn]
theorem ptOk_zero (h : ps[0]? = some x) (h1 : nameB x.name = true) (h2 : inB x.net 0 (nets - 1) = true) : ptOk nets ps 0 = true := by unfold ptOk; rw [h]; simp [h1, h2]
theorem ptOk_succ (h : ps[i + 1]? = some x) (h' : ps[i]? = some y) (h1 : nameB x.name = true) (h2 : inB x.net 0 (nets - 1) = true) (h3 : Op.bytesLess y.name.toList x.name.toList = true) : ptOk nets ps (i + 1) = true := by unfold ptOk; rw [h]; simp [h', ltS, h1, h2, h3]
variable {n : Nl}
theorem nlB_nets (h : inB n.nets 0 24 = false) : nlB n = false := by simp [nlB, h]
theorem nlB_ds (h : ¬ n.ds.length ≤ 24) : nlB n = false := by simp [nlB]; omega
theorem nlB_ps (h : ¬ n.ps.length ≤ 8) : nlB n = false := by simp [nlB]; omega
theorem nlB_any (h : (n.ds.all (dvB n.nets)) = false) : nlB n = false := by simp [nlB, h]
theorem nlB_dv {k : Nat} {d : Dv} (hk : n.ds[k]? = some d) (h : dvB n.nets d = false) : nlB n = false := by
  apply nlB_any
  rw [List.all_eq_false]; exact ⟨d, List.mem_of_getElem? hk, by simp [h]⟩
theorem nlB_pt (hi : i < n.ps.length) (h : ptOk n.nets n.ps i = false) : nlB n = false := by
  have : ptsB n.nets n.ps = false := by
    unfold ptsB; rw [List.all_eq_false]; exact ⟨i, List.mem_range.2 hi, by simp [h]⟩
  simp [nlB, this]
theorem all_dv {nets : Int} {ds : List Dv} (h : ∀ (j : Nat) d, j < ds.length → ds[j]? = some d → dvB nets d = true) : ds.all (dvB nets) = true := by
  rw [List.all_eq_true]; intro d hd
  obtain ⟨j, hj, e⟩ := List.mem_iff_getElem.1 hd
  exact h j d hj (by rw [List.getElem?_eq_getElem hj, e])
theorem nlB_pts (h1 : inB n.nets 0 24 = true) (h2 : n.ds.length ≤ 24) (h3 : n.ps.length ≤ 8) (h5 : ∀ i, i < n.ps.length → ptOk n.nets n.ps i = true) : nlB n = n.ds.all (dvB n.nets) := by
  have : ptsB n.nets n.ps = true := by unfold ptsB; rw [List.all_eq_true]; intro i hi; exact h5 i (List.mem_range.1 hi)
  simp [nlB, h1, h2, h3, this]
end
/- Degrees of nets: plain. -/
def degN : List Dv → Int → Nat
  | [], _ => 0
  | d :: ds, net => d.pins.count net + degN ds net
theorem degN_snoc (ds : List Dv) (d : Dv) (net : Int) : degN (ds ++ [d]) net = degN ds net + d.pins.count net := by
  induction ds with
  | nil => simp [degN]
  | cons y ys ih => simp only [List.cons_append, degN, ih]; omega
theorem take_snoc_of {α : Type} (xs : List α) (k : Nat) (x : α) (h : xs[k]? = some x) : xs.take (k + 1) = xs.take k ++ [x] := by
  rw [List.take_add_one, h]; rfl
theorem degN_take (ds : List Dv) (k : Nat) (d : Dv) (h : ds[k]? = some d) (net : Int) : degN (ds.take (k + 1)) net = degN (ds.take k) net + d.pins.count net := by
  rw [take_snoc_of ds k d h, degN_snoc]
theorem count_take (zs : List Int) (j : Nat) (z : Int) (h : zs[j]? = some z) (net : Int) : (zs.take (j + 1)).count net = (zs.take j).count net + if z = net then 1 else 0 := by
  rw [take_snoc_of zs j z h, List.count_append, List.count_singleton]; simp
theorem degN_le (ds : List Dv) (net : Int) (h : ∀ d ∈ ds, d.pins.length ≤ 3) : degN ds net ≤ 3 * ds.length := by
  induction ds with
  | nil => simp [degN]
  | cons y ys ih =>
    have h1 := ih (fun d hd => h d (List.mem_cons_of_mem _ hd))
    have h2 := h y List.mem_cons_self
    have h3 := List.count_le_length (a := net) (l := y.pins)
    simp only [degN, List.length_cons]; omega
theorem degN_take_le (ds : List Dv) (k : Nat) (net : Int) (hl : ds.length ≤ 24) (h : ∀ d ∈ ds, d.pins.length ≤ 3) : degN (ds.take k) net ≤ 72 := by
  have := degN_le (ds.take k) net (fun d hd => h d (List.mem_of_mem_take hd))
  have := List.length_take_le k ds
  have : (ds.take k).length ≤ ds.length := by rw [List.length_take]; omega
  omega
theorem count_take_le (zs : List Int) (j : Nat) (net : Int) (h : zs.length ≤ 3) : (zs.take j).count net ≤ 3 := by
  have := List.count_le_length (a := net) (l := zs.take j)
  have : (zs.take j).length ≤ zs.length := by rw [List.length_take]; omega
  omega
theorem nlB_facts {x : Nl} (h : nlB x = true) : (0 ≤ x.nets ∧ x.nets ≤ 24) ∧ x.ds.length ≤ 24 ∧ x.ps.length ≤ 8 ∧ (∀ d ∈ x.ds, dvB x.nets d = true) ∧ ∀ i, i < x.ps.length → ptOk x.nets x.ps i = true := by
  simp only [nlB, Bool.and_eq_true, decide_eq_true_eq, List.all_eq_true, ptsB, List.mem_range] at h
  exact ⟨inB_iff.1 h.1, h.2.1, h.2.2.1, h.2.2.2.1, h.2.2.2.2⟩
theorem dvB_pins {nets : Int} {d : Dv} (h : dvB nets d = true) : d.pins.length ≤ 3 ∧ 2 ≤ d.pins.length ∧ ∀ p ∈ d.pins, 0 ≤ p ∧ p < nets := by
  obtain ⟨h1, h2, h3, h4, h5, h6⟩ := dvB_all h
  refine ⟨by rw [h2]; unfold pinsOf; split <;> omega, by rw [h2]; unfold pinsOf; split <;> omega, fun p hp => ?_⟩
  have := inB_iff.1 (h5 p hp); omega
/- Contracts of the two functions that bring a ratio to lowest terms. -/
set_option maxHeartbeats 1000000 in
theorem l26Reduce_any (n d : Int) (w : World) (hn : -9223372036854775807 ≤ n) (hn' : n ≤ 9223372036854775807) (hd : -9223372036854775807 ≤ d) (hd' : d ≤ 9223372036854775807) (h0 : d ≠ 0) :
    Calls Tryz.prog 57 #[.int .i64 n, .int .i64 d] w fun e w' => e = .returned (.agg #[.int .i64 (redN n d), .int .i64 (redD n d)]) ∧ Below w.heap.size w w' := by
  have g1 := gcd_pos_of n d h0
  have g2 := gcd_le_of n d h0
  have q1 := tdiv_bd n (Int.gcd n d : Nat) (by omega) 9223372036854775807 hn hn'
  have q2 := tdiv_bd d (Int.gcd n d : Nat) (by omega) 9223372036854775807 hd hd'
  have e1 := Lib.hid (show Int.gcd (-n) (-d) = n.gcd d from by simp [Int.neg_gcd, Int.gcd_neg])
  have e2 := Lib.hid (show Int.gcd n (-d) = n.gcd d from by simp [Int.gcd_neg])
  have e3 := Lib.hid (show Int.gcd (-n) d = n.gcd d from by simp [Int.neg_gcd])
  have e4 := Lib.hid (show Int.gcd n d = n.gcd d from rfl)
  have e5 := Lib.hid (show Int.gcd ((-n).natAbs : Int) (-d) = n.gcd d from by simp [Int.gcd_neg, gcd_abs])
  have e6 := Lib.hid (show Int.gcd (n.natAbs : Int) d = n.gcd d from by simp [gcd_abs])
  by_cases hdn : d < 0
  all_goals
    go_enter Tryz.func57, Tryz.ntmps57
    go_wp2_with (go_at_call 91; refine (l26Gcd_as _ _ (n.gcd d) _ (by first | exact e1.out | exact e2.out | exact e3.out | exact e4.out | exact e5.out | exact e6.out) (by omega) (by omega) (by omega) (by omega)).mono ?_; rintro e w' ⟨rfl, nq, rfl⟩)
  all_goals
    go_region
    go_wp2
    exact bodyPost_ret (v := .agg #[.int .i64 (redN n d), .int .i64 (redD n d)]) (by first | simp [results, Tryz.results57, go_sem, redN_lt _ hdn, redD_lt _ hdn] | simp [results, Tryz.results57, go_sem, redN_ge _ hdn, redD_ge _ hdn]) rfl ⟨rfl, by repeat (first | exact Below.refl _ _ | apply Below.drew | apply below_drewN | refine Below.setCell ?_ (by simp) _ | refine Below.alloc ?_ (by simp) _)⟩
set_option maxHeartbeats 1000000 in
theorem lowest_any (n d : Int) (w : World) (hn : -9223372036854775807 ≤ n) (hn' : n ≤ 9223372036854775807) (hd : -9223372036854775807 ≤ d) (hd' : d ≤ 9223372036854775807) (h0 : d ≠ 0) :
    Calls Tryz.prog 115 #[.int .i64 n, .int .i64 d] w fun e w' => e = .returned (.agg #[.int .i64 (redN n d), .int .i64 (redD n d)]) ∧ Below w.heap.size w w' := by
  have g1 := gcd_pos_of n d h0
  have g2 := gcd_le_of n d h0
  have q1 := tdiv_bd n (Int.gcd n d : Nat) (by omega) 9223372036854775807 hn hn'
  have q2 := tdiv_bd d (Int.gcd n d : Nat) (by omega) 9223372036854775807 hd hd'
  have e1 := Lib.hid (show Int.gcd (-n) (-d) = n.gcd d from by simp [Int.neg_gcd, Int.gcd_neg])
  have e2 := Lib.hid (show Int.gcd n (-d) = n.gcd d from by simp [Int.gcd_neg])
  have e3 := Lib.hid (show Int.gcd (-n) d = n.gcd d from by simp [Int.neg_gcd])
  have e4 := Lib.hid (show Int.gcd n d = n.gcd d from rfl)
  have e5 := Lib.hid (show Int.gcd ((-n).natAbs : Int) (-d) = n.gcd d from by simp [Int.gcd_neg, gcd_abs])
  have e6 := Lib.hid (show Int.gcd (n.natAbs : Int) d = n.gcd d from by simp [gcd_abs])
  by_cases hdn : d < 0
  all_goals
    go_enter Tryz.func115, Tryz.ntmps115
    go_wp2_with (first | (go_at_call 112; refine (absolute_any _ _ (by omega) (by omega)).mono ?_; rintro e w' ⟨rfl, rfl⟩) | (go_at_call 111; refine (divisor_as _ _ (n.gcd d) _ (by first | exact e1.out | exact e2.out | exact e3.out | exact e4.out | exact e5.out | exact e6.out) (by omega) (by omega) (by omega) (by omega)).mono ?_; rintro e w' ⟨rfl, nq, rfl⟩))
  all_goals
    go_region
    go_wp2
    exact bodyPost_ret (v := .agg #[.int .i64 (redN n d), .int .i64 (redD n d)]) (by first | simp [results, Tryz.results115, go_sem, redN_lt _ hdn, redD_lt _ hdn] | simp [results, Tryz.results115, go_sem, redN_ge _ hdn, redD_ge _ hdn]) rfl ⟨rfl, by repeat (first | exact Below.refl _ _ | apply Below.drew | apply below_drewN | refine Below.setCell ?_ (by simp) _ | refine Below.alloc ?_ (by simp) _)⟩
set_option maxRecDepth 100000 in
set_option maxHeartbeats 1000000 in
theorem indexFuncI_any (g : Nat) (lb : Array Value) (eg : ∀ args w, (callFunc g args).run Tryz.prog w = .ok (.enter g args) w) (p : Int → Bool) (s0 : Value) (xs : List Int) (w : World) (h : IntSl w s0 xs)
    (hp : ∀ (W : World) (x : Int), Below w.heap.size w W → x ∈ xs → Calls Tryz.prog g (#[.int .i64 x] ++ lb) W fun e w' => e = .returned (.bool (p x)) ∧ Below W.heap.size W w') :
    Calls Tryz.prog 130 #[s0, .func (.func g) #[] lb] w fun e w' => e = .returned (.int .i64 (fidx p xs)) ∧ Below w.heap.size w w' := by
  have HH := Lib.hid (fun k x => @fidx_hit Int p xs k x)
  have HM := Lib.hid (@fidx_miss Int p xs)
  have HP := Lib.hid hp
  clear hp
  rcases h with ⟨a, c, rfl, rfl⟩ | ⟨b, off, cap, rfl, h2, h3, h4⟩
  · have hr := Lib.hid (HM.out (by simp))
    generalize fidx p [] = r at *
    go_enter Tryz.func130, Tryz.ntmps130
    go_wp2
    go_loopw [8] (fun i wr => i = .int .i64 0 ∧ wr = w) (fun _ _ => 0)
    case atStart => exact ⟨rfl, rfl⟩
    case round =>
      obtain ⟨rfl, rfl⟩ := hrel
      go_wp2
      go_ret
      exact ⟨ret_i64 hr.out.symm, Below.refl _ _⟩
  · generalize fidx p xs = r at *
    unfold maxLen at h3
    go_enter Tryz.func130, Tryz.ntmps130
    go_wp2
    go_loopw [5, 8] (fun _ i wr => ∃ k : Nat, k ≤ xs.length ∧ i = .int .i64 k ∧ Hid (∀ j y, j < k → xs[j]? = some y → p y = false) ∧ Below w.heap.size w wr) (fun _ i _ => xs.length - (intOf i).toNat)
    case atStart => exact ⟨0, Nat.zero_le _, rfl, Lib.hid (by intro j y hj; omega), Below.refl _ _⟩
    case round =>
      obtain ⟨k, hk, rfl, HI, hb⟩ := hrel
      by_cases hlt : k < xs.length
      · obtain ⟨x, hx⟩ : ∃ x, xs[k]? = some x := ⟨xs[k], List.getElem?_eq_getElem hlt⟩
        have hmem : x ∈ xs := List.mem_of_getElem? hx
        have c1 := cell_by' hb (h4 k x hx)
        have hcall := HP.out wr x hb hmem
        have HX := Lib.hid hx
        have i1 : (0 : Int) ≤ (k : Int) := by omega
        have i2 : (k : Int) < (xs.length : Int) := by omega
        skip
        clear h4 hx
        cases hq : p x with
        | true =>
          rw [hq] at hcall
          have HQ := Lib.hid hq
          have HC := Lib.hid hcall
          clear hq hcall
          go_wp2_with (go_at_fn g; refine HC.out.mono ?_; rintro e w1 ⟨rfl, hb1⟩)
          go_ret
          exact ⟨ret_i64 (HH.out k x HX.out HQ.out HI.out).symm, below_on hb1 hb⟩
        | false =>
          rw [hq] at hcall
          have HQ := Lib.hid hq
          have HC := Lib.hid hcall
          clear hq hcall
          go_wp2_with (go_at_fn g; refine HC.out.mono ?_; rintro e w1 ⟨rfl, hb1⟩)
          exact ⟨⟨k + 1, by omega, by go_num, Lib.hid (fun j y hj hy => by
            by_cases e : j = k
            · subst e; obtain rfl : y = x := Option.some.inj (hy.symm.trans HX.out); exact HQ.out
            · exact HI.out j y (by omega) hy), below_on hb1 hb⟩, by simp [intOf]; omega⟩
      · obtain rfl : k = xs.length := by omega
        have hr := Lib.hid (HM.out (fun j y hy => HI.out j y (List.getElem?_eq_some_iff.1 hy).1 hy))
        go_wp2
        go_ret
        exact ⟨ret_i64 hr.out.symm, hb⟩
set_option maxRecDepth 100000 in
set_option maxHeartbeats 1000000 in
theorem containsFuncI_any (g : Nat) (lb : Array Value) (eg : ∀ args w, (callFunc g args).run Tryz.prog w = .ok (.enter g args) w) (p : Int → Bool) (s0 : Value) (xs : List Int) (w : World) (h : IntSl w s0 xs)
    (hp : ∀ (W : World) (x : Int), Below w.heap.size w W → x ∈ xs → Calls Tryz.prog g (#[.int .i64 x] ++ lb) W fun e w' => e = .returned (.bool (p x)) ∧ Below W.heap.size W w') :
    Calls Tryz.prog 97 #[s0, .func (.func g) #[] lb] w fun e w' => e = .returned (.bool (xs.any p)) ∧ Below w.heap.size w w' := by
  have HI := Lib.hid (fun w h hp => indexFuncI_any g lb eg p s0 xs w h hp)
  have HA := Lib.hid (@fidx_any Int p xs)
  have HP := Lib.hid hp
  have HS := Lib.hid h
  obtain ⟨a, c, rfl⟩ := h.len
  generalize xs.any p = r at *
  generalize fidx p xs = q at *
  clear hp h
  go_enter Tryz.func97, Tryz.ntmps97
  go_wp2_with fail
  refine (HI.out _ HS.out HP.out).mono ?_
  rintro e w1 ⟨rfl, hb1⟩
  go_wp2
  go_ret
  exact ⟨ret_bool HA.out, hb1⟩
/- slices.IndexFunc and slices.ContainsFunc over a closure: at Dv. -/
set_option maxRecDepth 100000 in
set_option maxHeartbeats 1000000 in
theorem indexFuncD_any (g : Nat) (lb : Array Value) (eg : ∀ args w, (callFunc g args).run Tryz.prog w = .ok (.enter g args) w) (p : Dv → Bool) (s0 : Value) (xs : List Dv) (w : World) (h : DvSl w s0 xs)
    (hp : ∀ (W : World) (x : Dv) (sv : Value), Below w.heap.size w W → x ∈ xs → IntSl W sv x.pins → Calls Tryz.prog g (#[.agg #[.int .i64 x.kind, sv, .int .i64 x.wd, .int .i64 x.len]] ++ lb) W fun e w' => e = .returned (.bool (p x)) ∧ Below W.heap.size W w') :
    Calls Tryz.prog 66 #[s0, .func (.func g) #[] lb] w fun e w' => e = .returned (.int .i64 (fidx p xs)) ∧ Below w.heap.size w w' := by
  have HH := Lib.hid (fun k x => @fidx_hit Dv p xs k x)
  have HM := Lib.hid (@fidx_miss Dv p xs)
  have HP := Lib.hid hp
  clear hp
  rcases h with ⟨a, c, rfl, rfl⟩ | ⟨b, off, cap, rfl, h2, h3, h4⟩
  · have hr := Lib.hid (HM.out (by simp))
    generalize fidx p [] = r at *
    go_enter Tryz.func66, Tryz.ntmps66
    go_wp2
    go_loopw [8] (fun i wr => i = .int .i64 0 ∧ wr = w) (fun _ _ => 0)
    case atStart => exact ⟨rfl, rfl⟩
    case round =>
      obtain ⟨rfl, rfl⟩ := hrel
      go_wp2
      go_ret
      exact ⟨ret_i64 hr.out.symm, Below.refl _ _⟩
  · generalize fidx p xs = r at *
    unfold maxLen at h3
    go_enter Tryz.func66, Tryz.ntmps66
    go_wp2
    go_loopw [5, 8] (fun _ i wr => ∃ k : Nat, k ≤ xs.length ∧ i = .int .i64 k ∧ Hid (∀ j y, j < k → xs[j]? = some y → p y = false) ∧ Below w.heap.size w wr) (fun _ i _ => xs.length - (intOf i).toNat)
    case atStart => exact ⟨0, Nat.zero_le _, rfl, Lib.hid (by intro j y hj; omega), Below.refl _ _⟩
    case round =>
      obtain ⟨k, hk, rfl, HI, hb⟩ := hrel
      by_cases hlt : k < xs.length
      · obtain ⟨x, hx⟩ : ∃ x, xs[k]? = some x := ⟨xs[k], List.getElem?_eq_getElem hlt⟩
        have hmem : x ∈ xs := List.mem_of_getElem? hx
        obtain ⟨sv, c1, c2, c3, c4, hS⟩ := (h4 k x hx).by hb
        have hcall := HP.out wr x sv hb hmem hS
        have HX := Lib.hid hx
        have i1 : (0 : Int) ≤ (k : Int) := by omega
        have i2 : (k : Int) < (xs.length : Int) := by omega
        obtain ⟨a1, c1', rfl⟩ := hS.len
        clear h4 hx
        cases hq : p x with
        | true =>
          rw [hq] at hcall
          have HQ := Lib.hid hq
          have HC := Lib.hid hcall
          clear hq hcall
          go_wp2_with (go_at_fn g; refine HC.out.mono ?_; rintro e w1 ⟨rfl, hb1⟩)
          go_ret
          exact ⟨ret_i64 (HH.out k x HX.out HQ.out HI.out).symm, below_on hb1 hb⟩
        | false =>
          rw [hq] at hcall
          have HQ := Lib.hid hq
          have HC := Lib.hid hcall
          clear hq hcall
          go_wp2_with (go_at_fn g; refine HC.out.mono ?_; rintro e w1 ⟨rfl, hb1⟩)
          exact ⟨⟨k + 1, by omega, by go_num, Lib.hid (fun j y hj hy => by
            by_cases e : j = k
            · subst e; obtain rfl : y = x := Option.some.inj (hy.symm.trans HX.out); exact HQ.out
            · exact HI.out j y (by omega) hy), below_on hb1 hb⟩, by simp [intOf]; omega⟩
      · obtain rfl : k = xs.length := by omega
        have hr := Lib.hid (HM.out (fun j y hy => HI.out j y (List.getElem?_eq_some_iff.1 hy).1 hy))
        go_wp2
        go_ret
        exact ⟨ret_i64 hr.out.symm, hb⟩
set_option maxRecDepth 100000 in
set_option maxHeartbeats 1000000 in
theorem containsFuncD_any (g : Nat) (lb : Array Value) (eg : ∀ args w, (callFunc g args).run Tryz.prog w = .ok (.enter g args) w) (p : Dv → Bool) (s0 : Value) (xs : List Dv) (w : World) (h : DvSl w s0 xs)
    (hp : ∀ (W : World) (x : Dv) (sv : Value), Below w.heap.size w W → x ∈ xs → IntSl W sv x.pins → Calls Tryz.prog g (#[.agg #[.int .i64 x.kind, sv, .int .i64 x.wd, .int .i64 x.len]] ++ lb) W fun e w' => e = .returned (.bool (p x)) ∧ Below W.heap.size W w') :
    Calls Tryz.prog 26 #[s0, .func (.func g) #[] lb] w fun e w' => e = .returned (.bool (xs.any p)) ∧ Below w.heap.size w w' := by
  have HI := Lib.hid (fun w h hp => indexFuncD_any g lb eg p s0 xs w h hp)
  have HA := Lib.hid (@fidx_any Dv p xs)
  have HP := Lib.hid hp
  have HS := Lib.hid h
  obtain ⟨a, c, rfl⟩ := h.sized
  generalize xs.any p = r at *
  generalize fidx p xs = q at *
  clear hp h
  go_enter Tryz.func26, Tryz.ntmps26
  go_wp2_with fail
  refine (HI.out _ HS.out HP.out).mono ?_
  rintro e w1 ⟨rfl, hb1⟩
  go_wp2
  go_ret
  exact ⟨ret_bool HA.out, hb1⟩
/- slices.IndexFunc and slices.ContainsFunc over a closure: at Pt. -/
set_option maxRecDepth 100000 in
set_option maxHeartbeats 1000000 in
theorem indexFuncP_any (g : Nat) (lb : Array Value) (eg : ∀ args w, (callFunc g args).run Tryz.prog w = .ok (.enter g args) w) (p : Pt → Bool) (s0 : Value) (xs : List Pt) (w : World) (h : PtSl w s0 xs)
    (hp : ∀ (W : World) (x : Pt), Below w.heap.size w W → x ∈ xs → Calls Tryz.prog g (#[.agg #[.string x.name, .int .i64 x.net]] ++ lb) W fun e w' => e = .returned (.bool (p x)) ∧ Below W.heap.size W w') :
    Calls Tryz.prog 64 #[s0, .func (.func g) #[] lb] w fun e w' => e = .returned (.int .i64 (fidx p xs)) ∧ Below w.heap.size w w' := by
  have HH := Lib.hid (fun k x => @fidx_hit Pt p xs k x)
  have HM := Lib.hid (@fidx_miss Pt p xs)
  have HP := Lib.hid hp
  clear hp
  rcases h with ⟨a, c, rfl, rfl⟩ | ⟨b, off, cap, rfl, h2, h3, h4⟩
  · have hr := Lib.hid (HM.out (by simp))
    generalize fidx p [] = r at *
    go_enter Tryz.func64, Tryz.ntmps64
    go_wp2
    go_loopw [8] (fun i wr => i = .int .i64 0 ∧ wr = w) (fun _ _ => 0)
    case atStart => exact ⟨rfl, rfl⟩
    case round =>
      obtain ⟨rfl, rfl⟩ := hrel
      go_wp2
      go_ret
      exact ⟨ret_i64 hr.out.symm, Below.refl _ _⟩
  · generalize fidx p xs = r at *
    unfold maxLen at h3
    go_enter Tryz.func64, Tryz.ntmps64
    go_wp2
    go_loopw [5, 8] (fun _ i wr => ∃ k : Nat, k ≤ xs.length ∧ i = .int .i64 k ∧ Hid (∀ j y, j < k → xs[j]? = some y → p y = false) ∧ Below w.heap.size w wr) (fun _ i _ => xs.length - (intOf i).toNat)
    case atStart => exact ⟨0, Nat.zero_le _, rfl, Lib.hid (by intro j y hj; omega), Below.refl _ _⟩
    case round =>
      obtain ⟨k, hk, rfl, HI, hb⟩ := hrel
      by_cases hlt : k < xs.length
      · obtain ⟨x, hx⟩ : ∃ x, xs[k]? = some x := ⟨xs[k], List.getElem?_eq_getElem hlt⟩
        have hmem : x ∈ xs := List.mem_of_getElem? hx
        obtain ⟨c1, c2⟩ := (h4 k x hx).by hb
        have hcall := HP.out wr x hb hmem
        have HX := Lib.hid hx
        have i1 : (0 : Int) ≤ (k : Int) := by omega
        have i2 : (k : Int) < (xs.length : Int) := by omega
        skip
        clear h4 hx
        cases hq : p x with
        | true =>
          rw [hq] at hcall
          have HQ := Lib.hid hq
          have HC := Lib.hid hcall
          clear hq hcall
          go_wp2_with (go_at_fn g; refine HC.out.mono ?_; rintro e w1 ⟨rfl, hb1⟩)
          go_ret
          exact ⟨ret_i64 (HH.out k x HX.out HQ.out HI.out).symm, below_on hb1 hb⟩
        | false =>
          rw [hq] at hcall
          have HQ := Lib.hid hq
          have HC := Lib.hid hcall
          clear hq hcall
          go_wp2_with (go_at_fn g; refine HC.out.mono ?_; rintro e w1 ⟨rfl, hb1⟩)
          exact ⟨⟨k + 1, by omega, by go_num, Lib.hid (fun j y hj hy => by
            by_cases e : j = k
            · subst e; obtain rfl : y = x := Option.some.inj (hy.symm.trans HX.out); exact HQ.out
            · exact HI.out j y (by omega) hy), below_on hb1 hb⟩, by simp [intOf]; omega⟩
      · obtain rfl : k = xs.length := by omega
        have hr := Lib.hid (HM.out (fun j y hy => HI.out j y (List.getElem?_eq_some_iff.1 hy).1 hy))
        go_wp2
        go_ret
        exact ⟨ret_i64 hr.out.symm, hb⟩
set_option maxRecDepth 100000 in
set_option maxHeartbeats 2000000 in
theorem l27Device_any (x : Dv) (sv : Value) (nets : Int) (w : World) (h : IntSl w sv x.pins) (hn : 0 ≤ nets) (hn' : nets ≤ 24) :
    Calls Tryz.prog 49 #[.agg #[.int .i64 x.kind, sv, .int .i64 x.wd, .int .i64 x.len], .int .i64 nets] w fun e w' => e = .returned (.bool (dvB nets x)) ∧ Below w.heap.size w w' := by
  have HK := Lib.hid (@dvB_kind nets x)
  have HL := Lib.hid (@dvB_len nets x)
  have HW := Lib.hid (@dvB_wd nets x)
  have HG := Lib.hid (@dvB_lg nets x)
  have HP := Lib.hid (fun k p => @dvB_pin nets x k p)
  have HE := Lib.hid (@dvB_end nets x)
  obtain ⟨kind, pins, wd, len⟩ := x
  dsimp only at h HK HL HW HG HP HE ⊢
  generalize dvB nets ⟨kind, pins, wd, len⟩ = r at *
  have hle := h.le
  rcases Bool.eq_false_or_eq_true (inB kind 0 2) with hk | hk
  · have hk' := inB_iff.1 hk
    have HK1 := Lib.hid hk
    by_cases hl : pins.length = pinsOf kind
    · have HL1 := Lib.hid hl
      rcases Bool.eq_false_or_eq_true (inB wd 1 1000000) with hw | hw
      · have hw' := inB_iff.1 hw
        have HW1 := Lib.hid hw
        rcases Bool.eq_false_or_eq_true (inB len 1 1000000) with hg | hg
        · have hg' := inB_iff.1 hg
          have HG1 := Lib.hid hg
          have hpos : 0 < pins.length := by rw [hl]; unfold pinsOf; split <;> omega
          rcases h with ⟨_, _, _, e⟩ | ⟨b, off, cap, rfl, h2, h3, h4⟩
          · rw [e] at hpos; simp at hpos
          have h4' : ∀ (k : Nat), k < pins.length → ∃ p, pins[k]? = some p ∧ w.cell? ⟨b, off + k, none⟩ = some (.int .i64 p) := fun k hk => ⟨pins[k], List.getElem?_eq_getElem hk, h4 k _ (List.getElem?_eq_getElem hk)⟩
          have H4 := Lib.hid h4'
          have hbl : b < w.heap.size := by
            obtain ⟨p, _, hc⟩ := h4' 0 hpos
            rcases Nat.lt_or_ge b w.heap.size with h' | h'
            · exact h'
            · simp [World.cell?, Array.getElem?_eq_none h'] at hc
          unfold maxLen at h3
          rcases (by omega : kind ≠ 2 ∨ kind = 2) with hk2 | hk2
          · have hz : (kind == 2) = false := by simpa using hk2
            have hz' : (kind != 2) = true := by simpa using hk2
            have hl' : (pins.length : Int) = 3 := by rw [hl]; simp [pinsOf, hk2]
            have hl3 : ((pins.length : Int) != 3) = false := by simp [hl']
            have hlt3 : pins.length ≤ 3 := by omega
            have HK2 := Lib.hid hk2
            clear hl hl' h4 h4' hk2
            go_enter Tryz.func49, Tryz.ntmps49
            go_wp2_with (go_at_call 48; refine (l16In_any _ _ _ _).mono ?_; rintro e w' ⟨rfl, rfl⟩)
            go_loop [6] (fun i => ∃ k : Nat, k ≤ pins.length ∧ i = .int .i64 k ∧ Hid (∀ j p, j < k → pins[j]? = some p → inB p 0 (nets - 1) = true)) (fun i => pins.length - (intOf i).toNat)
            case atStart => exact ⟨0, Nat.zero_le _, rfl, Lib.hid (by intro j p h; omega)⟩
            case round =>
              obtain ⟨k, hk, rfl, HI⟩ := hrel
              by_cases hlt : k < pins.length
              · obtain ⟨p, hp, hc⟩ := H4.out k hlt
                have HPP := Lib.hid hp
                have i1 : (0 : Int) ≤ (k : Int) := by omega
                have i2 : (k : Int) < (pins.length : Int) := by omega
                clear hp
                rcases Bool.eq_false_or_eq_true (inB p 0 (nets - 1)) with hin | hin
                · have HIN := Lib.hid hin
                  go_wp2_with (go_at_call 48; refine (l16In_any _ _ _ _).mono ?_; rintro e w' ⟨rfl, rfl⟩)
                  go_round
                  case rel => exact ⟨k + 1, by omega, by go_num, Lib.hid (fun j q hj hq => by
                    by_cases e : j = k
                    · subst e; obtain rfl : q = p := Option.some.inj (hq.symm.trans HPP.out); exact HIN.out
                    · exact HI.out j q (by omega) hq)⟩
                  case measure => simp [intOf]; omega
                · have hr := Lib.hid (HP.out k p HPP.out hin)
                  go_wp2_with (go_at_call 48; refine (l16In_any _ _ _ _).mono ?_; rintro e w' ⟨rfl, rfl⟩)
                  go_ret
                  exact ⟨ret_bool hr.out.symm, blwT⟩
              · obtain rfl : k = pins.length := by omega
                have hall : pins.all (fun p => inB p 0 (nets - 1)) = true := by
                  rw [List.all_eq_true]; intro p hp
                  obtain ⟨j, hj, e⟩ := List.mem_iff_getElem.1 hp
                  exact HI.out j p hj (by rw [List.getElem?_eq_getElem hj, e])
                have hr := HE.out HK1.out HL1.out HW1.out HG1.out hall
                clear hall
                have hr' := Lib.hid hr
                clear hr
                go_wp2
                go_ret
                exact ⟨ret_bool (by rw [hr'.out]; simp [HK2.out]), blwT⟩
          · subst hk2
            have hl' : (pins.length : Int) = 2 := by rw [hl]; simp [pinsOf]
            have hl3 : ((pins.length : Int) != 2) = false := by simp [hl']
            have hlt3 : pins.length ≤ 3 := by omega
            clear hl hl' h4 h4'
            go_enter Tryz.func49, Tryz.ntmps49
            go_wp2_with (go_at_call 48; refine (l16In_any _ _ _ _).mono ?_; rintro e w' ⟨rfl, rfl⟩)
            go_loop [6] (fun i => ∃ k : Nat, k ≤ pins.length ∧ i = .int .i64 k ∧ Hid (∀ j p, j < k → pins[j]? = some p → inB p 0 (nets - 1) = true)) (fun i => pins.length - (intOf i).toNat)
            case atStart => exact ⟨0, Nat.zero_le _, rfl, Lib.hid (by intro j p h; omega)⟩
            case round =>
              obtain ⟨k, hk, rfl, HI⟩ := hrel
              by_cases hlt : k < pins.length
              · obtain ⟨p, hp, hc⟩ := H4.out k hlt
                have HPP := Lib.hid hp
                have i1 : (0 : Int) ≤ (k : Int) := by omega
                have i2 : (k : Int) < (pins.length : Int) := by omega
                clear hp
                rcases Bool.eq_false_or_eq_true (inB p 0 (nets - 1)) with hin | hin
                · have HIN := Lib.hid hin
                  go_wp2_with (go_at_call 48; refine (l16In_any _ _ _ _).mono ?_; rintro e w' ⟨rfl, rfl⟩)
                  go_round
                  case rel => exact ⟨k + 1, by omega, by go_num, Lib.hid (fun j q hj hq => by
                    by_cases e : j = k
                    · subst e; obtain rfl : q = p := Option.some.inj (hq.symm.trans HPP.out); exact HIN.out
                    · exact HI.out j q (by omega) hq)⟩
                  case measure => simp [intOf]; omega
                · have hr := Lib.hid (HP.out k p HPP.out hin)
                  go_wp2_with (go_at_call 48; refine (l16In_any _ _ _ _).mono ?_; rintro e w' ⟨rfl, rfl⟩)
                  go_ret
                  exact ⟨ret_bool hr.out.symm, blwT⟩
              · obtain rfl : k = pins.length := by omega
                have hall : pins.all (fun p => inB p 0 (nets - 1)) = true := by
                  rw [List.all_eq_true]; intro p hp
                  obtain ⟨j, hj, e⟩ := List.mem_iff_getElem.1 hp
                  exact HI.out j p hj (by rw [List.getElem?_eq_getElem hj, e])
                have hr := HE.out HK1.out HL1.out HW1.out HG1.out hall
                clear hall
                have hr' := Lib.hid hr
                have HGG := Lib.hid (show Int.gcd wd len = Int.gcd wd len from rfl)
                clear hr
                go_wp2_with (go_at_call 91; refine (l26Gcd_as _ _ (wd.gcd len) _ rfl (by omega) (by omega) (by omega) (by omega)).mono ?_; rintro e w' ⟨rfl, nq, rfl⟩)
                go_ret
                exact ⟨ret_bool (by rw [hr'.out, Bool.eq_iff_iff]; simp; try omega), blwT⟩
        · have hr := Lib.hid (HG.out hg)
          obtain ⟨a, c, rfl⟩ := h.len
          rcases (by omega : kind ≠ 2 ∨ kind = 2) with hk2 | hk2
          · have hz : (kind == 2) = false := by simpa using hk2
            have hl3 : ((pins.length : Int) != 3) = false := by simp [hl, pinsOf, hk2]
            clear hl hk2
            go_enter Tryz.func49, Tryz.ntmps49
            go_wp2_with (go_at_call 48; refine (l16In_any _ _ _ _).mono ?_; rintro e w' ⟨rfl, rfl⟩)
            go_ret
            exact ⟨ret_bool hr.out.symm, blwT⟩
          · subst hk2
            have hl3 : ((pins.length : Int) != 2) = false := by simp [hl, pinsOf]
            clear hl
            go_enter Tryz.func49, Tryz.ntmps49
            go_wp2_with (go_at_call 48; refine (l16In_any _ _ _ _).mono ?_; rintro e w' ⟨rfl, rfl⟩)
            go_ret
            exact ⟨ret_bool hr.out.symm, blwT⟩
      · have hr := Lib.hid (HW.out hw)
        obtain ⟨a, c, rfl⟩ := h.len
        rcases (by omega : kind ≠ 2 ∨ kind = 2) with hk2 | hk2
        · have hz : (kind == 2) = false := by simpa using hk2
          have hl3 : ((pins.length : Int) != 3) = false := by simp [hl, pinsOf, hk2]
          clear hl hk2
          go_enter Tryz.func49, Tryz.ntmps49
          go_wp2_with (go_at_call 48; refine (l16In_any _ _ _ _).mono ?_; rintro e w' ⟨rfl, rfl⟩)
          go_ret
          exact ⟨ret_bool hr.out.symm, blwT⟩
        · subst hk2
          have hl3 : ((pins.length : Int) != 2) = false := by simp [hl, pinsOf]
          clear hl
          go_enter Tryz.func49, Tryz.ntmps49
          go_wp2_with (go_at_call 48; refine (l16In_any _ _ _ _).mono ?_; rintro e w' ⟨rfl, rfl⟩)
          go_ret
          exact ⟨ret_bool hr.out.symm, blwT⟩
    · have hr := Lib.hid (HL.out hl)
      obtain ⟨a, c, rfl⟩ := h.len
      rcases (by omega : kind ≠ 2 ∨ kind = 2) with hk2 | hk2
      · have hz : (kind == 2) = false := by simpa using hk2
        have hl3 : ((pins.length : Int) != 3) = true := by simp [pinsOf, hk2] at hl; simp; omega
        clear hl hk2
        go_enter Tryz.func49, Tryz.ntmps49
        go_wp2_with (go_at_call 48; refine (l16In_any _ _ _ _).mono ?_; rintro e w' ⟨rfl, rfl⟩)
        go_ret
        exact ⟨ret_bool hr.out.symm, blwT⟩
      · subst hk2
        have hl3 : ((pins.length : Int) != 2) = true := by simp [pinsOf] at hl; simp; omega
        clear hl
        go_enter Tryz.func49, Tryz.ntmps49
        go_wp2_with (go_at_call 48; refine (l16In_any _ _ _ _).mono ?_; rintro e w' ⟨rfl, rfl⟩)
        go_ret
        exact ⟨ret_bool hr.out.symm, blwT⟩
  · have hr := Lib.hid (HK.out hk)
    have hk2 : kind ≠ 2 := by rintro rfl; simp [inB] at hk
    have hz : (kind == 2) = false := by simpa using hk2
    obtain ⟨a, c, rfl⟩ := h.len
    clear hk2
    go_enter Tryz.func49, Tryz.ntmps49
    go_wp2_with (go_at_call 48; refine (l16In_any _ _ _ _).mono ?_; rintro e w' ⟨rfl, rfl⟩)
    go_ret
    exact ⟨ret_bool hr.out.symm, blwT⟩
/- The program's validity test of a device. -/
set_option maxRecDepth 100000 in
theorem vdClosure_any (p nets : Int) (B : Nat) (W : World) (hc : W.cell? ⟨B, 0, none⟩ = some (.int .i64 nets)) (hn : 0 ≤ nets) (hn' : nets ≤ 24) :
    Calls Tryz.prog 98 #[.int .i64 p, .pointer (some ⟨B, 0, none⟩)] W fun e w' => e = .returned (.bool (!inB p 0 (nets - 1))) ∧ W = w' := by
  go_enter Tryz.func98, Tryz.ntmps98
  go_wp2_with (go_at_call 60; refine (within_any _ _ _ _).mono ?_; rintro e w' ⟨rfl, rfl⟩)
  go_ret
  exact ⟨rfl, rfl⟩
theorem pins_any (nets : Int) (pins : List Int) : (pins.any fun p => !inB p 0 (nets - 1)) = !(pins.all fun p => inB p 0 (nets - 1)) := by
  induction pins with
  | nil => rfl
  | cons x xs ih => simp [ih]
set_option maxRecDepth 100000 in
set_option maxHeartbeats 2000000 in
theorem validDevice_any (x : Dv) (sv : Value) (nets : Int) (w : World) (h : IntSl w sv x.pins) (hn : 0 ≤ nets) (hn' : nets ≤ 24) :
    Calls Tryz.prog 63 #[.agg #[.int .i64 x.kind, sv, .int .i64 x.wd, .int .i64 x.len], .int .i64 nets] w fun e w' => e = .returned (.bool (dvB nets x)) ∧ Below w.heap.size w w' := by
  have HK := Lib.hid (@dvB_kind nets x)
  have HL := Lib.hid (@dvB_len nets x)
  have HW := Lib.hid (@dvB_wd nets x)
  have HG := Lib.hid (@dvB_lg nets x)
  have HPA : (x.pins.all (fun p => inB p 0 (nets - 1))) = false → dvB nets x = false := by intro h; simp [dvB, h]
  replace HPA := Lib.hid HPA
  have HE := Lib.hid (@dvB_end nets x)
  obtain ⟨kind, pins, wd, len⟩ := x
  dsimp only at h HK HL HW HG HPA HE ⊢
  generalize dvB nets ⟨kind, pins, wd, len⟩ = r at *
  have hle := h.le
  have eg : ∀ args w, (callFunc 98 args).run Tryz.prog w = .ok (.enter 98 args) w := enters_of Tryz.func98 (by kernel_rfl) rfl
  have hcl : ∀ (B : Nat) (w0 W : World) (x : Int), w0.cell? ⟨B, 0, none⟩ = some (.int .i64 nets) → Below w0.heap.size w0 W → Calls Tryz.prog 98 (#[.int .i64 x] ++ #[.pointer (some ⟨B, 0, none⟩)]) W fun e w' => e = .returned (.bool (!inB x 0 (nets - 1))) ∧ Below W.heap.size W w' := by
    intro B w0 W x hc hb
    show Calls Tryz.prog 98 #[.int .i64 x, .pointer (some ⟨B, 0, none⟩)] W _
    refine (vdClosure_any x nets B W (cell_by' hb hc) hn hn').mono ?_
    rintro e w' ⟨rfl, rfl⟩
    exact ⟨rfl, Below.refl _ _⟩
  have hw2 := ((Below.refl _ w).alloc (Nat.le_refl _) (.cells #[.int .i64 kind, sv, .int .i64 wd, .int .i64 len] 51)).alloc (by simp) (.cells #[.int .i64 nets] 2)
  have HC := Lib.hid (containsFuncI_any 98 #[.pointer (some ⟨w.heap.size + 1, 0, none⟩)] eg (fun p => !inB p 0 (nets - 1)) sv pins _ (h.by hw2) (fun W x hb _ => hcl (w.heap.size + 1) _ W x (by simp) hb))
  rw [pins_any] at HC
  clear hcl eg hw2
  have HPC := Lib.hid (fun w => pinCount_any kind w)
  have hmf : ∀ (fn : Fn) (first cap : Array Value) (w : World), (Instr.makeFunc fn first cap).run Tryz.prog w = .ok (.func fn first cap) w := fun _ _ _ _ => rfl
  obtain ⟨a, c, rfl⟩ := h.len
  rcases Bool.eq_false_or_eq_true (inB kind 0 2) with hk | hk
  · have hk' := inB_iff.1 hk
    have HK1 := Lib.hid hk
    obtain ⟨q, hq⟩ : ∃ q : Int, pinc kind = q := ⟨_, rfl⟩
    have hq3 : q = 2 ∨ q = 3 := by unfold pinc at hq; repeat' (split at hq); all_goals omega
    have hq0 : (q == 0) = false := by rw [beq_eq_false_iff_ne]; omega
    have hqp : (pinsOf kind : Int) = q := by rw [← hq]; unfold pinc pinsOf; rcases (by omega : kind = 0 ∨ kind = 1 ∨ kind = 2) with rfl | rfl | rfl <;> rfl
    rw [hq] at HPC
    clear hq
    by_cases hl : pins.length = pinsOf kind
    · have HL1 := Lib.hid hl
      have hl' : ((pins.length : Int) != q) = false := by simp [hl, hqp]
      clear hl hqp
      rcases Bool.eq_false_or_eq_true (pins.all (fun p => inB p 0 (nets - 1))) with hp | hp
      · have HP1 := Lib.hid hp
        rw [hp] at HC
        clear hp
        rcases Bool.eq_false_or_eq_true (inB wd 1 1000000) with hw | hw
        · have hw' := inB_iff.1 hw
          have HW1 := Lib.hid hw
          rcases Bool.eq_false_or_eq_true (inB len 1 1000000) with hg | hg
          · have hg' := inB_iff.1 hg
            have HG1 := Lib.hid hg
            have HR := Lib.hid (HE.out HK1.out HL1.out HW1.out HG1.out HP1.out)
            have HVR := Lib.hid (show vrB wd len = decide (Int.gcd wd len = 1) from vrB_of wd (by omega))
            by_cases hk2 : kind = 2
            · subst hk2
              go_enter Tryz.func63, Tryz.ntmps63
              go_wp2_with (first | (go_at_call 86; refine (HPC.out _).mono ?_; rintro e w' ⟨rfl, rfl⟩) | (go_at_call 60; refine (within_any _ _ _ _).mono ?_; rintro e w' ⟨rfl, rfl⟩) | (go_at_call 97; refine HC.out.mono ?_; rintro e w1 ⟨rfl, hb1⟩; have k0 : Blk w1 w.heap.size #[.int .i64 2, .slice a pins.length c, .int .i64 wd, .int .i64 len] 51 := blkT; have c0 := k0.cell) | (go_at_call 71; refine (validRatio_any _ _ _ (by omega) (by omega) (by omega) (by omega)).mono ?_; rintro e w2 ⟨rfl, hb2⟩))
              go_ret
              exact ⟨ret_bool (by rw [HVR.out, HR.out]; simp), blwT⟩
            · have hz' : (kind != 2) = true := by simpa using hk2
              have HK2 := Lib.hid hk2
              clear hk2
              go_enter Tryz.func63, Tryz.ntmps63
              go_wp2_with (first | (go_at_call 86; refine (HPC.out _).mono ?_; rintro e w' ⟨rfl, rfl⟩) | (go_at_call 60; refine (within_any _ _ _ _).mono ?_; rintro e w' ⟨rfl, rfl⟩) | (go_at_call 97; refine HC.out.mono ?_; rintro e w1 ⟨rfl, hb1⟩; have k0 : Blk w1 w.heap.size #[.int .i64 kind, .slice a pins.length c, .int .i64 wd, .int .i64 len] 51 := blkT; have c0 := k0.cell))
              go_ret
              exact ⟨ret_bool (by rw [HR.out]; simp [HK2.out]), blwT⟩
          · have hr := Lib.hid (HG.out hg)
            go_enter Tryz.func63, Tryz.ntmps63
            go_wp2_with (first | (go_at_call 86; refine (HPC.out _).mono ?_; rintro e w' ⟨rfl, rfl⟩) | (go_at_call 60; refine (within_any _ _ _ _).mono ?_; rintro e w' ⟨rfl, rfl⟩) | (go_at_call 97; refine HC.out.mono ?_; rintro e w1 ⟨rfl, hb1⟩; have k0 : Blk w1 w.heap.size #[.int .i64 kind, .slice a pins.length c, .int .i64 wd, .int .i64 len] 51 := blkT; have c0 := k0.cell))
            go_ret
            exact ⟨ret_bool hr.out.symm, blwT⟩
        · have hr := Lib.hid (HW.out hw)
          go_enter Tryz.func63, Tryz.ntmps63
          go_wp2_with (first | (go_at_call 86; refine (HPC.out _).mono ?_; rintro e w' ⟨rfl, rfl⟩) | (go_at_call 60; refine (within_any _ _ _ _).mono ?_; rintro e w' ⟨rfl, rfl⟩) | (go_at_call 97; refine HC.out.mono ?_; rintro e w1 ⟨rfl, hb1⟩; have k0 : Blk w1 w.heap.size #[.int .i64 kind, .slice a pins.length c, .int .i64 wd, .int .i64 len] 51 := blkT; have c0 := k0.cell))
          go_ret
          exact ⟨ret_bool hr.out.symm, blwT⟩
      · have hr := Lib.hid (HPA.out hp)
        rw [hp] at HC
        clear hp
        go_enter Tryz.func63, Tryz.ntmps63
        go_wp2_with (first | (go_at_call 86; refine (HPC.out _).mono ?_; rintro e w' ⟨rfl, rfl⟩) | (go_at_call 97; refine HC.out.mono ?_; rintro e w1 ⟨rfl, hb1⟩))
        go_ret
        exact ⟨ret_bool hr.out.symm, blwT⟩
    · have hr := Lib.hid (HL.out hl)
      have hl' : ((pins.length : Int) != q) = true := by rw [bne_iff_ne]; omega
      clear hl hqp
      go_enter Tryz.func63, Tryz.ntmps63
      go_wp2_with (go_at_call 86; refine (HPC.out _).mono ?_; rintro e w' ⟨rfl, rfl⟩)
      go_ret
      exact ⟨ret_bool hr.out.symm, blwT⟩
  · have hr := Lib.hid (HK.out hk)
    have hq : pinc kind = 0 := by
      have := inB_not.1 hk
      unfold pinc; rw [if_neg (by omega), if_neg (by omega), if_neg (by omega)]
    rw [hq] at HPC
    clear hq
    go_enter Tryz.func63, Tryz.ntmps63
    go_wp2_with (go_at_call 86; refine (HPC.out _).mono ?_; rintro e w' ⟨rfl, rfl⟩)
    go_ret
    exact ⟨ret_bool hr.out.symm, blwT⟩
theorem lt_of_cell {w : World} {p : Addr} {v : Value} (h : w.cell? p = some v) : p.block < w.heap.size := by
  rcases Nat.lt_or_ge p.block w.heap.size with h' | h'
  · exact h'
  · simp [World.cell?, Array.getElem?_eq_none h'] at h
set_option maxRecDepth 100000 in
set_option maxHeartbeats 1000000 in
theorem vnClosure_any (x : Dv) (sv : Value) (nets : Int) (B : Nat) (W : World) (hc : W.cell? ⟨B, 0, none⟩ = some (.int .i64 nets)) (hS : IntSl W sv x.pins) (hn : 0 ≤ nets) (hn' : nets ≤ 24) :
    Calls Tryz.prog 62 #[.agg #[.int .i64 x.kind, sv, .int .i64 x.wd, .int .i64 x.len], .pointer (some ⟨B, 0, none⟩)] W fun e w' => e = .returned (.bool (!dvB nets x)) ∧ Below W.heap.size W w' := by
  have HT := Lib.hid (fun w h => validDevice_any x sv nets w h hn hn')
  have hB := lt_of_cell hc
  dsimp only at hB
  obtain ⟨a, c, rfl⟩ := hS.len
  generalize dvB nets x = r at *
  go_enter Tryz.func62, Tryz.ntmps62
  go_wp2_with fail
  refine (HT.out _ (hS.by blwT)).mono ?_
  rintro e w1 ⟨rfl, hb1⟩
  go_wp2
  go_ret
  exact ⟨rfl, blwT⟩
theorem dvs_any (nets : Int) (ds : List Dv) : (ds.any fun d => !dvB nets d) = !(ds.all (dvB nets)) := by
  induction ds with
  | nil => rfl
  | cons x xs ih => simp [ih]
set_option maxRecDepth 100000 in
set_option maxHeartbeats 4000000 in
theorem implNl_any (x : Nl) (v : Value) (w : World) (h : NlV w v x) (hok : ∀ p ∈ x.ps, p.ok) (hnn : Fits x.nets) :
    Calls Tryz.prog 24 #[v] w fun e w' => e = .returned (.bool (nlB x)) ∧ Below w.heap.size w w' := by
  obtain ⟨s1, s2, rfl, hd, hp⟩ := h
  have HNn := Lib.hid (@nlB_nets x)
  have HND := Lib.hid (@nlB_ds x)
  have HNP := Lib.hid (@nlB_ps x)
  have HPT := Lib.hid (fun i => @nlB_pt i x)
  have HEN := Lib.hid (@nlB_pts x)
  obtain ⟨nets, ds, ps⟩ := x
  dsimp only at hd hp hok hnn HNn HND HNP HPT HEN ⊢
  generalize nlB ⟨nets, ds, ps⟩ = r at *
  have hdl : ds.length ≤ maxLen := by
    rcases hd with ⟨_, _, _, h2⟩ | ⟨b, off, cap, h1, h2, h3, _⟩
    · subst h2; simp
    · exact Nat.le_trans h2 h3
  have hpl : ps.length ≤ maxLen := by
    rcases hp with ⟨_, _, _, h2⟩ | ⟨b, off, cap, h1, h2, h3, _⟩
    · subst h2; simp
    · exact Nat.le_trans h2 h3
  unfold maxLen at hdl hpl
  have HD := Lib.hid hd
  have HP := Lib.hid hp
  have hmf : ∀ (fn : Fn) (first cap : Array Value) (w : World), (Instr.makeFunc fn first cap).run Tryz.prog w = .ok (.func fn first cap) w := fun _ _ _ _ => rfl
  obtain ⟨a1, c1, rfl⟩ := hd.sized
  obtain ⟨a2, c2, rfl⟩ := hp.sized
  clear hd hp
  rcases Bool.eq_false_or_eq_true (inB nets 0 24) with hn | hn
  · have hn' := inB_iff.1 hn
    have HN1 := Lib.hid hn
    by_cases h24 : ds.length ≤ 24
    · by_cases h8 : ps.length ≤ 8
      · have HK := Lib.hid hok
        clear hok
        go_enter Tryz.func24, Tryz.ntmps24
        go_wp2_with (go_at_call 60; refine (within_any _ _ _ _).mono ?_; rintro e w' ⟨rfl, rfl⟩)
        go_loopw [24] (fun i wr => ∃ k : Nat, k ≤ ps.length ∧ i = .int .i64 k ∧ Hid (∀ (j : Nat), j < k → ptOk nets ps j = true) ∧ Blk wr w.heap.size #[.int .i64 nets, .slice a1 ds.length c1, .slice a2 ps.length c2] 34 ∧ Below w.heap.size w wr) (fun i _ => ps.length - (intOf i).toNat)
        case atStart => exact ⟨0, Nat.zero_le _, rfl, Lib.hid (by intro j hj; omega), blkT, blwT⟩
        case round =>
          obtain ⟨k, hk, rfl, HI, kN, hb⟩ := hrel
          have cN := kN.cell
          have lN := kN.lt
          by_cases hlt : k < ps.length
          · obtain ⟨x, hx⟩ : ∃ x, ps[k]? = some x := ⟨ps[k], List.getElem?_eq_getElem hlt⟩
            have HX := Lib.hid hx
            have HPS := HP.out
            rcases HPS with ⟨_, _, _, h2⟩ | ⟨b, off, cap, he, h2, h3, h4⟩
            · rw [h2] at hlt; simp at hlt
            obtain ⟨rfl, rfl⟩ : a2 = some ⟨b, off, none⟩ ∧ c2 = cap := by simpa using he
            obtain ⟨p1, p2⟩ := (h4 k x hx).by hb
            have lP := lt_of_cell p1
            dsimp only at lP
            have hsz : x.name.size ≤ 9223372036854775807 := (HK.out x (List.mem_of_getElem? hx)).1
            have i1 : (0 : Int) ≤ (k : Int) := by omega
            have i2 : (k : Int) < (ps.length : Int) := by omega
            clear hx he
            rcases Bool.eq_false_or_eq_true (nameB x.name) with hnm | hnm
            · rcases Bool.eq_false_or_eq_true (inB x.net 0 (nets - 1)) with hin | hin
              · by_cases hk0 : k = 0
                · have HK0 := Lib.hid hk0
                  have hx0 := HX.out
                  rw [hk0] at hx0
                  have HX0 := Lib.hid hx0
                  have hkz : decide (0 < k) = false := by rw [decide_eq_false_iff_not]; omega
                  clear h4 hk0 hx0
                  have HOK := Lib.hid (HK0.out.symm ▸ ptOk_zero HX0.out hnm hin : ptOk nets ps k = true)
                  go_wp2
                  go_quiet ((first | (go_at_call 61; exact Calls.quiet_of_same ((implIsName_any x.name _ hsz).mono fun _ _ h => ⟨h.1, h.2.symm⟩)) | (go_at_call 60; exact Calls.quiet_of_same ((within_any _ _ _ _).mono fun _ _ h => ⟨h.1, h.2.symm⟩))))
                  go_wp2
                  exact ⟨⟨k + 1, by omega, by go_num, Lib.hid (fun i hj => by
                    by_cases e : i = k
                    · subst e; exact HOK.out
                    · exact HI.out i (by omega)), blkT, blwT⟩, by simp [intOf]; omega⟩
                · obtain ⟨j, rfl⟩ : ∃ j, k = j + 1 := ⟨k - 1, by omega⟩
                  obtain ⟨y, hy⟩ : ∃ y, ps[j]? = some y := ⟨ps[j]'(by omega), List.getElem?_eq_getElem (by omega)⟩
                  have HY := Lib.hid hy
                  obtain ⟨q1, q2⟩ := (h4 j y hy).by hb
                  have j1 : (0 : Int) < (j : Int) + 1 := by omega
                  have j2 : (0 : Int) ≤ (j : Int) := by omega
                  have j3 : (j : Int) < (ps.length : Int) := by omega
                  have j4 : (j : Int) + 1 < (ps.length : Int) := by omega
                  clear hy h4
                  rcases Bool.eq_false_or_eq_true (Op.bytesLess y.name.toList x.name.toList) with hls | hls
                  · have HOK := Lib.hid (ptOk_succ HX.out HY.out hnm hin hls)
                    go_wp2
                    go_quiet ((first | (go_at_call 61; exact Calls.quiet_of_same ((implIsName_any x.name _ hsz).mono fun _ _ h => ⟨h.1, h.2.symm⟩)) | (go_at_call 60; exact Calls.quiet_of_same ((within_any _ _ _ _).mono fun _ _ h => ⟨h.1, h.2.symm⟩))))
                    go_wp2
                    exact ⟨⟨(j + 1) + 1, by omega, by go_num, Lib.hid (fun i hj => by
                      by_cases e : i = (j + 1)
                      · subst e; exact HOK.out
                      · exact HI.out i (by omega)), blkT, blwT⟩, by simp [intOf]; omega⟩
                  · have hr := Lib.hid (HPT.out _ hlt (ptOk_lt HX.out HY.out hls))
                    go_wp2
                    go_quiet ((first | (go_at_call 61; exact Calls.quiet_of_same ((implIsName_any x.name _ hsz).mono fun _ _ h => ⟨h.1, h.2.symm⟩)) | (go_at_call 60; exact Calls.quiet_of_same ((within_any _ _ _ _).mono fun _ _ h => ⟨h.1, h.2.symm⟩))))
                    go_wp2
                    go_ret
                    exact ⟨ret_bool hr.out.symm, blwT⟩
              · have hr := Lib.hid (HPT.out _ hlt (ptOk_net HX.out hin))
                go_wp2
                go_quiet ((first | (go_at_call 61; exact Calls.quiet_of_same ((implIsName_any x.name _ hsz).mono fun _ _ h => ⟨h.1, h.2.symm⟩)) | (go_at_call 60; exact Calls.quiet_of_same ((within_any _ _ _ _).mono fun _ _ h => ⟨h.1, h.2.symm⟩))))
                go_wp2
                go_ret
                exact ⟨ret_bool hr.out.symm, blwT⟩
            · have hr := Lib.hid (HPT.out _ hlt (ptOk_name HX.out hnm))
              go_wp2
              go_quiet ((first | (go_at_call 61; exact Calls.quiet_of_same ((implIsName_any x.name _ hsz).mono fun _ _ h => ⟨h.1, h.2.symm⟩)) | (go_at_call 60; exact Calls.quiet_of_same ((within_any _ _ _ _).mono fun _ _ h => ⟨h.1, h.2.symm⟩))))
              go_wp2
              go_ret
              exact ⟨ret_bool hr.out.symm, blwT⟩
          · obtain rfl : k = ps.length := by omega
            have hr := Lib.hid (HEN.out HN1.out h24 h8 (fun i hi => HI.out i hi))
            have eg : ∀ args w, (callFunc 62 args).run Tryz.prog w = .ok (.enter 62 args) w := enters_of Tryz.func62 (by kernel_rfl) rfl
            have hcl : ∀ (W : World) (x : Dv) (sv : Value), Below wr.heap.size wr W → x ∈ ds → IntSl W sv x.pins → Calls Tryz.prog 62 (#[.agg #[.int .i64 x.kind, sv, .int .i64 x.wd, .int .i64 x.len]] ++ #[.pointer (some ⟨w.heap.size, 0, none⟩)]) W fun e w' => e = .returned (.bool (!dvB nets x)) ∧ Below W.heap.size W w' := by
              intro W x sv hbW _ hS
              show Calls Tryz.prog 62 #[.agg #[.int .i64 x.kind, sv, .int .i64 x.wd, .int .i64 x.len], .pointer (some ⟨w.heap.size, 0, none⟩)] W _
              exact vnClosure_any x sv nets w.heap.size W (cell_by' hbW (by rw [cN]; rfl)) hS (by omega) (by omega)
            have HC := Lib.hid (containsFuncD_any 62 #[.pointer (some ⟨w.heap.size, 0, none⟩)] eg (fun d => !dvB nets d) _ ds wr (HD.out.by hb) hcl)
            rw [dvs_any] at HC
            clear eg hcl HI
            go_wp2_with (go_at_call 26; refine HC.out.mono ?_; rintro e w1 ⟨rfl, hb1⟩)
            go_ret
            exact ⟨ret_bool (by rw [hr.out]), blwT⟩
      · have hr := Lib.hid (HNP.out h8)
        go_enter Tryz.func24, Tryz.ntmps24
        go_wp2_with (go_at_call 60; refine (within_any _ _ _ _).mono ?_; rintro e w' ⟨rfl, rfl⟩)
        go_ret
        exact ⟨ret_bool hr.out.symm, blwT⟩
    · have hr := Lib.hid (HND.out h24)
      go_enter Tryz.func24, Tryz.ntmps24
      go_wp2_with (go_at_call 60; refine (within_any _ _ _ _).mono ?_; rintro e w' ⟨rfl, rfl⟩)
      go_ret
      exact ⟨ret_bool hr.out.symm, blwT⟩
  · have hr := Lib.hid (HNn.out hn)
    go_enter Tryz.func24, Tryz.ntmps24
    go_wp2_with (go_at_call 60; refine (within_any _ _ _ _).mono ?_; rintro e w' ⟨rfl, rfl⟩)
    go_ret
    exact ⟨ret_bool hr.out.symm, blwT⟩
end Go.Proofs.YtmmohdhkpccjbaaGreat
