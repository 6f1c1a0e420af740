/- Merging two devices: the plain part. -/
import Derived.Test.YtdljbmfmmlcmmaaSerB
import Derived.Test.YtdljbmfmmlcmmaaValid0
import Derived.Test.YtdljbmfmmlcmmaaNorms
import Derived.Test.YtdljbmfmmlcmmaaMarks
import Derived.Test.YtdljbmfmmlcmmaaIntB
import Derived.BigRegion
import Derived.Test.YtdljbmfmmlcmmaaBldg
import Derived.Deep.DeepCutAuto
import Derived.Test.YtdljbmfmmlcmmaaSerX
import Derived.Test.YtdljbmfmmlcmmaaCmps
import Derived.Deep.RegionHeld3
import Derived.Test.YtdljbmfmmlcmmaaRank0
import Derived.Test.YtdljbmfmmlcmmaaCopies
import Derived.Deep.AppendSrc
namespace Go.Proofs.Ytdljbmfmmlcmmaa
open Go.RowKit
set_option linter.unusedVariables false
set_option linter.unusedSimpArgs false

/-- The current pin that is not a net. -/
def otherN (p q net : Int) : Int := if p = net then q else p
def mgPins (x y : Dv) (ser : Bool) : List Int :=
  if ser = true then (if x.kind = 2 then [] else [gateOf x.pins]) ++ [otherN (curP x.pins) (curQ x.pins) (serN x y), otherN (curP y.pins) (curQ y.pins) (serN x y)] else x.pins
def mgW (x y : Dv) (ser : Bool) : Int :=
  if x.kind = 2 then (if ser = true then redN (x.wd * y.len + y.wd * x.len) (x.len * y.len) else redN (x.wd * y.wd) (x.wd * y.len + y.wd * x.len)) else if ser = true then x.wd else x.wd + y.wd
def mgL (x y : Dv) (ser : Bool) : Int :=
  if x.kind = 2 then (if ser = true then redD (x.wd * y.len + y.wd * x.len) (x.len * y.len) else redD (x.wd * y.wd) (x.wd * y.len + y.wd * x.len)) else if ser = true then x.len + y.len else x.len
/-- The merged device. -/
def mgD (x y : Dv) (ser : Bool) : Dv := ⟨x.kind, mgPins x y ser, mgW x y ser, mgL x y ser⟩
theorem serN_mem {x y : Dv} (h : oneB x y = true) : (serN x y = curP x.pins ∨ serN x y = curQ x.pins) ∧ (serN x y = curP y.pins ∨ serN x y = curQ y.pins) := by
  have h1 : comC (curP x.pins) (curQ x.pins) (curP y.pins) (curQ y.pins) = 1 := by simpa [oneB] using h
  unfold serN
  generalize curP x.pins = p at *
  generalize curQ x.pins = q at *
  generalize curP y.pins = r at *
  generalize curQ y.pins = s at *
  unfold comC at h1
  unfold comN
  by_cases a : q = r ∨ q = s
  · rw [if_pos a]
    exact ⟨.inr rfl, a⟩
  · by_cases b : p = r ∨ p = s
    · rw [if_neg a, if_pos b]
      exact ⟨.inl rfl, b⟩
    · rw [if_neg a, if_neg b] at h1
      omega
theorem otherN_sum {p q net : Int} (h : net = p ∨ net = q) : p + q - net = otherN p q net := by
  unfold otherN
  rcases h with rfl | rfl
  · rw [if_pos rfl]; omega
  · by_cases e : p = net
    · rw [if_pos e]; omega
    · rw [if_neg e]; omega
theorem serB_oneB {n : Nl} {x y : Dv} (h : serB n x y = true) : preB x y = true ∧ oneB x y = true := by
  simp only [serB, Bool.and_eq_true] at h
  exact ⟨h.1, h.2.1⟩
theorem preB_kindE {x y : Dv} (h : preB x y = true) : x.kind = y.kind ∧ parB x y = false := by
  simp only [preB, Bool.and_eq_true, decide_eq_true_eq, Bool.not_eq_true'] at h
  exact ⟨h.1, h.2.1⟩
end Go.Proofs.Ytdljbmfmmlcmmaa

/- The program's merged: parallel devices. -/
namespace Go.Proofs.Ytdljbmfmmlcmmaa
open Go.RowKit
set_option linter.unusedVariables false
set_option linter.unusedSimpArgs false

theorem OwnI.toR {w : World} {lo : Nat} {sv : Value} {zs : List Int} (h : OwnI w lo sv zs) : OwnR w lo w.heap.size sv zs := by
  rcases h with h | ⟨g, cap, cs, e1, e2, e3, e4, e5, e6⟩
  · exact .inl h
  · exact .inr ⟨g, cap, cs, e1, e2, e5.lt, e3, e4, e5, e6⟩
theorem mul_bd {a b : Int} (ha : 1 ≤ a) (ha' : a ≤ 1000000) (hb : 1 ≤ b) (hb' : b ≤ 1000000) : 1 ≤ a * b ∧ a * b ≤ 1000000000000 := by
  have h1 := Int.mul_le_mul ha' hb' (by omega) (by omega)
  have h2 := Int.mul_le_mul ha hb (by omega) (by omega)
  omega

set_option maxRecDepth 100000 in
set_option maxHeartbeats 2000000 in
theorem mergedPar_any (x y : Dv) (net : Int) (sx sy : Value) (w : World) (h : IntSl w sx x.pins) (h' : IntSl w sy y.pins) (hn : x.pins.length ≤ 3)
    (b1 : 1 ≤ x.wd ∧ x.wd ≤ 1000000) (b2 : 1 ≤ x.len ∧ x.len ≤ 1000000) (b3 : 1 ≤ y.wd ∧ y.wd ≤ 1000000) (b4 : 1 ≤ y.len ∧ y.len ≤ 1000000) :
    Calls Try.prog 57 #[.agg #[.int .i64 x.kind, sx, .int .i64 x.wd, .int .i64 x.len], .agg #[.int .i64 y.kind, sy, .int .i64 y.wd, .int .i64 y.len], .int .i64 net, .bool false] w
      fun e w' => ∃ pv, e = .returned (.agg #[.int .i64 x.kind, pv, .int .i64 (mgW x y false), .int .i64 (mgL x y false)]) ∧ OwnR w' w.heap.size w'.heap.size pv (mgPins x y false) ∧ Below w.heap.size w w' := by
  have hp : mgPins x y false = x.pins := by simp [mgPins]
  rw [hp]
  have HCP := Lib.hid (fun w h => copyDevice_any x.kind x.wd x.len sx x.pins w h (by omega))
  have H := Lib.hid h
  have p1 := mul_bd b1.1 b1.2 b4.1 b4.2
  have p2 := mul_bd b3.1 b3.2 b2.1 b2.2
  have p3 := mul_bd b2.1 b2.2 b4.1 b4.2
  have p4 := mul_bd b1.1 b1.2 b3.1 b3.2
  obtain ⟨a, c, rfl⟩ := h.len
  obtain ⟨a', c', rfl⟩ := h'.len
  obtain ⟨kind, pins, wd, len⟩ := x
  obtain ⟨kind', pins', wd', len'⟩ := y
  dsimp only at HCP H p1 p2 p3 p4 b1 b2 b3 b4 hn ⊢
  by_cases hk : kind = 2
  · have e1 : (kind == 2) = true := by simpa using hk
    have hW : mgW ⟨kind, pins, wd, len⟩ ⟨kind', pins', wd', len'⟩ false = redN (wd * wd') (wd * len' + wd' * len) := by simp [mgW, hk]
    have hL : mgL ⟨kind, pins, wd, len⟩ ⟨kind', pins', wd', len'⟩ false = redD (wd * wd') (wd * len' + wd' * len) := by simp [mgL, hk]
    rw [hW, hL]
    have HLO1 := Lib.hid (fun w => lowest_any (wd * len' + wd' * len) (len * len') w (by omega) (by omega) (by omega) (by omega) (by omega))
    have HLO2 := Lib.hid (fun w => lowest_any (wd * wd') (wd * len' + wd' * len) w (by omega) (by omega) (by omega) (by omega) (by omega))
    generalize redN (wd * wd') (wd * len' + wd' * len) = R1 at *
    generalize redD (wd * wd') (wd * len' + wd' * len) = R2 at *
    have w1' : IntKind.i64.wrap (wd * len') = wd * len' := by simp [IntKind.wrap, IntKind.bits, IntKind.signed]; omega
    have w2' : IntKind.i64.wrap (wd' * len) = wd' * len := by simp [IntKind.wrap, IntKind.bits, IntKind.signed]; omega
    have w3' : IntKind.i64.wrap (len * len') = len * len' := by simp [IntKind.wrap, IntKind.bits, IntKind.signed]; omega
    have w4' : IntKind.i64.wrap (wd * wd') = wd * wd' := by simp [IntKind.wrap, IntKind.bits, IntKind.signed]; omega
    have w5' : IntKind.i64.wrap (wd * len' + wd' * len) = wd * len' + wd' * len := by simp [IntKind.wrap, IntKind.bits, IntKind.signed]; omega
    clear h h' hk hW hL hp
    go_enter Try.func57, Try.ntmps57
    go_wp2_with fail
    refine (HCP.out _ (H.out.by (by ((repeat (first | (with_reducible exact Below.refl _ _) | (with_reducible refine below_drewN ?_ _) | (with_reducible refine Below.drew ?_) | (with_reducible refine below_al ?_ _) | (with_reducible refine below_on (by assumption) ?_) | ((with_reducible refine Below.setCell ?_ ?_ _); rotate_left; focus (first | omega | (simp; done) | (simp; omega))) | (with_reducible assumption))); done)))).mono ?_
    rintro e w1 ⟨pv, rfl, hO, hb1⟩
    have kA : Blk w1 w.heap.size #[.int .i64 kind, .slice a pins.length c, .int .i64 wd, .int .i64 len] 35 := (by ((repeat (first | (with_reducible assumption) | (with_reducible refine Blk.drewN ?_ _) | (with_reducible refine Blk.drew ?_) | ((with_reducible refine Blk.new _ ?_); focus (first | omega | (simp; done) | (simp; omega))) | (with_reducible refine Blk.past ?_ _) | ((with_reducible refine Blk.apart ?_ _ _ _ ?_); rotate_left; focus (first | omega | (simp; done) | (simp; omega))) | (with_reducible refine Blk.by (by assumption) ?_))); done))
    have kB : Blk w1 (w.heap.size + 1) #[.int .i64 kind', .slice a' pins'.length c', .int .i64 wd', .int .i64 len'] 35 := (by ((repeat (first | (with_reducible assumption) | (with_reducible refine Blk.drewN ?_ _) | (with_reducible refine Blk.drew ?_) | ((with_reducible refine Blk.new _ ?_); focus (first | omega | (simp; done) | (simp; omega))) | (with_reducible refine Blk.past ?_ _) | ((with_reducible refine Blk.apart ?_ _ _ _ ?_); rotate_left; focus (first | omega | (simp; done) | (simp; omega))) | (with_reducible refine Blk.by (by assumption) ?_))); done))
    have kR : Blk w1 (w.heap.size + 1 + 1) #[.int .i64 0, .slice none 0 0, .int .i64 0, .int .i64 0] 35 := (by ((repeat (first | (with_reducible assumption) | (with_reducible refine Blk.drewN ?_ _) | (with_reducible refine Blk.drew ?_) | ((with_reducible refine Blk.new _ ?_); focus (first | omega | (simp; done) | (simp; omega))) | (with_reducible refine Blk.past ?_ _) | ((with_reducible refine Blk.apart ?_ _ _ _ ?_); rotate_left; focus (first | omega | (simp; done) | (simp; omega))) | (with_reducible refine Blk.by (by assumption) ?_))); done))
    have hW1 : Below w.heap.size w w1 := (by ((repeat (first | (with_reducible exact Below.refl _ _) | (with_reducible refine below_drewN ?_ _) | (with_reducible refine Below.drew ?_) | (with_reducible refine below_al ?_ _) | (with_reducible refine below_on (by assumption) ?_) | ((with_reducible refine Below.setCell ?_ ?_ _); rotate_left; focus (first | omega | (simp; done) | (simp; omega))) | (with_reducible assumption))); done))
    have HO : Hid (OwnR w1 (w.heap.size + 1 + 1 + 1) w1.heap.size pv pins) := Lib.hid (by have h0 := hO.toR; simp only [World.size_alloc] at h0; exact h0)
    obtain ⟨ap, cp, rfl⟩ := hO.len
    have qA := kA.cell
    have lA := kA.lt
    have qB := kB.cell
    have lB := kB.lt
    clear hO hb1
    go_wp2_with fail
    refine (HLO1.out _).mono ?_
    rintro e w2 ⟨rfl, hb2⟩
    have kA2 : Blk w2 w.heap.size #[.int .i64 kind, .slice a pins.length c, .int .i64 wd, .int .i64 len] 35 := (by ((repeat (first | (with_reducible assumption) | (with_reducible refine Blk.drewN ?_ _) | (with_reducible refine Blk.drew ?_) | ((with_reducible refine Blk.new _ ?_); focus (first | omega | (simp; done) | (simp; omega))) | (with_reducible refine Blk.past ?_ _) | ((with_reducible refine Blk.apart ?_ _ _ _ ?_); rotate_left; focus (first | omega | (simp; done) | (simp; omega))) | (with_reducible refine Blk.by (by assumption) ?_))); done))
    have kB2 : Blk w2 (w.heap.size + 1) #[.int .i64 kind', .slice a' pins'.length c', .int .i64 wd', .int .i64 len'] 35 := (by ((repeat (first | (with_reducible assumption) | (with_reducible refine Blk.drewN ?_ _) | (with_reducible refine Blk.drew ?_) | ((with_reducible refine Blk.new _ ?_); focus (first | omega | (simp; done) | (simp; omega))) | (with_reducible refine Blk.past ?_ _) | ((with_reducible refine Blk.apart ?_ _ _ _ ?_); rotate_left; focus (first | omega | (simp; done) | (simp; omega))) | (with_reducible refine Blk.by (by assumption) ?_))); done))
    have kR2 : Blk w2 (w.heap.size + 1 + 1) #[.int .i64 0, .slice none 0 0, .int .i64 0, .int .i64 0] 35 := (by ((repeat (first | (with_reducible assumption) | (with_reducible refine Blk.drewN ?_ _) | (with_reducible refine Blk.drew ?_) | ((with_reducible refine Blk.new _ ?_); focus (first | omega | (simp; done) | (simp; omega))) | (with_reducible refine Blk.past ?_ _) | ((with_reducible refine Blk.apart ?_ _ _ _ ?_); rotate_left; focus (first | omega | (simp; done) | (simp; omega))) | (with_reducible refine Blk.by (by assumption) ?_))); done))
    have kD2 : Blk w2 w1.heap.size #[.int .i64 kind, .slice ap pins.length cp, .int .i64 wd, .int .i64 len] 35 := (by ((repeat (first | (with_reducible assumption) | (with_reducible refine Blk.drewN ?_ _) | (with_reducible refine Blk.drew ?_) | ((with_reducible refine Blk.new _ ?_); focus (first | omega | (simp; done) | (simp; omega))) | (with_reducible refine Blk.past ?_ _) | ((with_reducible refine Blk.apart ?_ _ _ _ ?_); rotate_left; focus (first | omega | (simp; done) | (simp; omega))) | (with_reducible refine Blk.by (by assumption) ?_))); done))
    have hW2 : Below w.heap.size w w2 := (by ((repeat (first | (with_reducible exact Below.refl _ _) | (with_reducible refine below_drewN ?_ _) | (with_reducible refine Below.drew ?_) | (with_reducible refine below_al ?_ _) | (with_reducible refine below_on (by assumption) ?_) | ((with_reducible refine Below.setCell ?_ ?_ _); rotate_left; focus (first | omega | (simp; done) | (simp; omega))) | (with_reducible assumption))); done))
    have HO2 := Lib.hid (OwnR.by hb2 (OwnR.by ((Below.refl _ w1).alloc (Nat.le_refl _) _) HO.out))
    have hs1 := hW1.size
    have lR := kR.lt
    have qA2 := kA2.cell
    have lA2 := kA2.lt
    have qB2 := kB2.cell
    have lB2 := kB2.lt
    clear hb2 qA lA qB lB kA kB
    go_wp2_with fail
    refine (HLO2.out _).mono ?_
    rintro e w3 ⟨rfl, hb3⟩
    obtain ⟨D, hD⟩ : ∃ D, w1.heap.size = D := ⟨_, rfl⟩
    obtain ⟨V, hV⟩ : ∃ V, w2.heap.size = V := ⟨_, rfl⟩
    have kR3 : Blk w3 (w.heap.size + 1 + 1) #[.int .i64 0, .slice none 0 0, .int .i64 0, .int .i64 0] 35 := (by ((repeat (first | (with_reducible assumption) | (with_reducible refine Blk.drewN ?_ _) | (with_reducible refine Blk.drew ?_) | ((with_reducible refine Blk.new _ ?_); focus (first | omega | (simp; done) | (simp; omega))) | (with_reducible refine Blk.past ?_ _) | ((with_reducible refine Blk.apart ?_ _ _ _ ?_); rotate_left; focus (first | omega | (simp; done) | (simp; omega))) | (with_reducible refine Blk.by (by assumption) ?_))); done))
    have kD3 : Blk w3 w1.heap.size #[.int .i64 kind, .slice ap pins.length cp, .int .i64 wd, .int .i64 len] 35 := (by ((repeat (first | (with_reducible assumption) | (with_reducible refine Blk.drewN ?_ _) | (with_reducible refine Blk.drew ?_) | ((with_reducible refine Blk.new _ ?_); focus (first | omega | (simp; done) | (simp; omega))) | (with_reducible refine Blk.past ?_ _) | ((with_reducible refine Blk.apart ?_ _ _ _ ?_); rotate_left; focus (first | omega | (simp; done) | (simp; omega))) | (with_reducible refine Blk.by (by assumption) ?_))); done))
    have kV3 : Blk w3 w2.heap.size #[.int .i64 (redN (wd * len' + wd' * len) (len * len')), .int .i64 (redD (wd * len' + wd' * len) (len * len'))] 91 := (by ((repeat (first | (with_reducible assumption) | (with_reducible refine Blk.drewN ?_ _) | (with_reducible refine Blk.drew ?_) | ((with_reducible refine Blk.new _ ?_); focus (first | omega | (simp; done) | (simp; omega))) | (with_reducible refine Blk.past ?_ _) | ((with_reducible refine Blk.apart ?_ _ _ _ ?_); rotate_left; focus (first | omega | (simp; done) | (simp; omega))) | (with_reducible refine Blk.by (by assumption) ?_))); done))
    have hW3 : Below w.heap.size w w3 := (by ((repeat (first | (with_reducible exact Below.refl _ _) | (with_reducible refine below_drewN ?_ _) | (with_reducible refine Below.drew ?_) | (with_reducible refine below_al ?_ _) | (with_reducible refine below_on (by assumption) ?_) | ((with_reducible refine Below.setCell ?_ ?_ _); rotate_left; focus (first | omega | (simp; done) | (simp; omega))) | (with_reducible assumption))); done))
    have HO3 := Lib.hid (OwnR.by hb3 (OwnR.by ((Below.refl _ w2).alloc (Nat.le_refl _) _) HO2.out))
    have lDV : w1.heap.size < w2.heap.size := kD2.lt
    rw [hD] at kD3 lDV HO3
    rw [hV] at kV3 lDV
    rw [hD] at lR
    rw [hD, hV]
    have qV := kV3.cell
    have fV := kV3.free
    have lV := kV3.lt
    have qD := kD3.cell
    have fD := kD3.free
    have lD := kD3.lt
    have qR := kR3.cell
    have fR := kR3.free
    have lR3 := kR3.lt
    have nDV : ¬ D = V := by omega
    have nVD : ¬ V = D := by omega
    clear hb3 qA2 lA2 qB2 lB2 kA2 kB2 kR2 kD2 hD hV kR
    go_wp2
    obtain ⟨w4, hw4⟩ : ∃ z, z = (w3.setCell ⟨V, 0, none⟩ (.int .i64 R1)).setCell ⟨V, 1, none⟩ (.int .i64 R2) := ⟨_, rfl⟩
    have hVw : w.heap.size + 1 + 1 < V := by omega
    have kV4 : Blk w4 V #[.int .i64 R1, .int .i64 R2] 91 := by rw [hw4]; exact kV3.set2
    have kD4 : Blk w4 D #[.int .i64 kind, .slice ap pins.length cp, .int .i64 wd, .int .i64 len] 35 := by rw [hw4]; exact (kD3.apart V _ _ (by omega)).apart V _ _ (by omega)
    have kR4 : Blk w4 (w.heap.size + 1 + 1) #[.int .i64 0, .slice none 0 0, .int .i64 0, .int .i64 0] 35 := by rw [hw4]; exact (kR3.apart V _ _ (by omega)).apart V _ _ (by omega)
    have hW4 : Below w.heap.size w w4 := by rw [hw4]; exact (hW3.setCell (by simp; omega) _).setCell (by simp; omega) _
    have HO4 : Hid (OwnR w4 (w.heap.size + 1 + 1 + 1) D (.slice ap pins.length cp) pins) := Lib.hid (by rw [hw4]; exact OwnR.past (Within.off _) (OwnR.past (Within.off _) HO3.out (by omega)) (by omega))
    rw [← hw4]
    have qV4 := kV4.cell
    have qD4 := kD4.cell
    have fD4 := kD4.free
    have lD4 := kD4.lt
    have qR4 := kR4.cell
    have fR4 := kR4.free
    have lR4 := kR4.lt
    clear hw4 qV fV lV qD fD lD qR fR lR3 kV3 kD3 kR3
    go_region
    all_goals go_wp2
    all_goals
      refine bodyPost_ret (v := .agg #[.int .i64 kind, .slice ap pins.length cp, .int .i64 R1, .int .i64 R2]) (by simp [results, Try.results57, go_sem, *]) rfl ⟨_, rfl, ?_, ?_⟩
      · have q1 := OwnR.past (Within.off (g := D) (o := 2) (.int .i64 R1)) HO4.out (by omega)
        have q2 := OwnR.past (Within.off (g := D) (o := 3) (.int .i64 R2)) q1 (by omega)
        have q3 := OwnR.past (Within.off (g := w.heap.size + 1 + 1) (o := 0) (.int .i64 kind)) q2 (by omega)
        have q4 := OwnR.past (Within.off (g := w.heap.size + 1 + 1) (o := 1) (.slice ap pins.length cp)) q3 (by omega)
        have q5 := OwnR.past (Within.off (g := w.heap.size + 1 + 1) (o := 2) (.int .i64 R1)) q4 (by omega)
        have q6 := OwnR.past (Within.off (g := w.heap.size + 1 + 1) (o := 3) (.int .i64 R2)) q5 (by omega)
        exact OwnR.wide' (OwnR.by (Below.refl _ _).drew q6) (by omega) (by simp; omega)
      · ((repeat (first | (with_reducible exact Below.refl _ _) | (with_reducible refine below_drewN ?_ _) | (with_reducible refine Below.drew ?_) | (with_reducible refine below_al ?_ _) | (with_reducible refine below_on (by assumption) ?_) | ((with_reducible refine Below.setCell ?_ ?_ _); rotate_left; focus (first | omega | (simp; done) | (simp; omega))) | (with_reducible assumption))); done)
  · have e1 : (kind == 2) = false := by simpa using hk
    have hW : mgW ⟨kind, pins, wd, len⟩ ⟨kind', pins', wd', len'⟩ false = wd + wd' := by simp [mgW, hk]
    have hL : mgL ⟨kind, pins, wd, len⟩ ⟨kind', pins', wd', len'⟩ false = len := by simp [mgL, hk]
    rw [hW, hL]
    have w5' : IntKind.i64.wrap (wd + wd') = wd + wd' := by simp [IntKind.wrap, IntKind.bits, IntKind.signed]; omega
    clear h h' hk hW hL hp p1 p2 p3 p4
    go_enter Try.func57, Try.ntmps57
    go_wp2_with fail
    refine (HCP.out _ (H.out.by (by ((repeat (first | (with_reducible exact Below.refl _ _) | (with_reducible refine below_drewN ?_ _) | (with_reducible refine Below.drew ?_) | (with_reducible refine below_al ?_ _) | (with_reducible refine below_on (by assumption) ?_) | ((with_reducible refine Below.setCell ?_ ?_ _); rotate_left; focus (first | omega | (simp; done) | (simp; omega))) | (with_reducible assumption))); done)))).mono ?_
    rintro e w1 ⟨pv, rfl, hO, hb1⟩
    have kA : Blk w1 w.heap.size #[.int .i64 kind, .slice a pins.length c, .int .i64 wd, .int .i64 len] 35 := (by ((repeat (first | (with_reducible assumption) | (with_reducible refine Blk.drewN ?_ _) | (with_reducible refine Blk.drew ?_) | ((with_reducible refine Blk.new _ ?_); focus (first | omega | (simp; done) | (simp; omega))) | (with_reducible refine Blk.past ?_ _) | ((with_reducible refine Blk.apart ?_ _ _ _ ?_); rotate_left; focus (first | omega | (simp; done) | (simp; omega))) | (with_reducible refine Blk.by (by assumption) ?_))); done))
    have kB : Blk w1 (w.heap.size + 1) #[.int .i64 kind', .slice a' pins'.length c', .int .i64 wd', .int .i64 len'] 35 := (by ((repeat (first | (with_reducible assumption) | (with_reducible refine Blk.drewN ?_ _) | (with_reducible refine Blk.drew ?_) | ((with_reducible refine Blk.new _ ?_); focus (first | omega | (simp; done) | (simp; omega))) | (with_reducible refine Blk.past ?_ _) | ((with_reducible refine Blk.apart ?_ _ _ _ ?_); rotate_left; focus (first | omega | (simp; done) | (simp; omega))) | (with_reducible refine Blk.by (by assumption) ?_))); done))
    have kR : Blk w1 (w.heap.size + 1 + 1) #[.int .i64 0, .slice none 0 0, .int .i64 0, .int .i64 0] 35 := (by ((repeat (first | (with_reducible assumption) | (with_reducible refine Blk.drewN ?_ _) | (with_reducible refine Blk.drew ?_) | ((with_reducible refine Blk.new _ ?_); focus (first | omega | (simp; done) | (simp; omega))) | (with_reducible refine Blk.past ?_ _) | ((with_reducible refine Blk.apart ?_ _ _ _ ?_); rotate_left; focus (first | omega | (simp; done) | (simp; omega))) | (with_reducible refine Blk.by (by assumption) ?_))); done))
    have hW1 : Below w.heap.size w w1 := (by ((repeat (first | (with_reducible exact Below.refl _ _) | (with_reducible refine below_drewN ?_ _) | (with_reducible refine Below.drew ?_) | (with_reducible refine below_al ?_ _) | (with_reducible refine below_on (by assumption) ?_) | ((with_reducible refine Below.setCell ?_ ?_ _); rotate_left; focus (first | omega | (simp; done) | (simp; omega))) | (with_reducible assumption))); done))
    have HO : Hid (OwnR w1 (w.heap.size + 1 + 1 + 1) w1.heap.size pv pins) := Lib.hid (by have h0 := hO.toR; simp only [World.size_alloc] at h0; exact h0)
    obtain ⟨ap, cp, rfl⟩ := hO.len
    have qA := kA.cell
    have lA := kA.lt
    have qB := kB.cell
    have lB := kB.lt
    have qR := kR.cell
    have fR := kR.free
    have lR := kR.lt
    clear hO hb1
    go_wp2
    refine bodyPost_ret (v := .agg #[.int .i64 kind, .slice ap pins.length cp, .int .i64 (wd + wd'), .int .i64 len]) (by simp [results, Try.results57, go_sem, *]) rfl ⟨_, rfl, ?_, (by ((repeat (first | (with_reducible exact Below.refl _ _) | (with_reducible refine below_drewN ?_ _) | (with_reducible refine Below.drew ?_) | (with_reducible refine below_al ?_ _) | (with_reducible refine below_on (by assumption) ?_) | ((with_reducible refine Below.setCell ?_ ?_ _); rotate_left; focus (first | omega | (simp; done) | (simp; omega))) | (with_reducible assumption))); done))⟩
    have q3 := OwnR.past (Within.off (g := w.heap.size + 1 + 1) (o := 0) (.int .i64 kind)) HO.out (by omega)
    have q4 := OwnR.past (Within.off (g := w.heap.size + 1 + 1) (o := 1) (.slice ap pins.length cp)) q3 (by omega)
    have q5 := OwnR.past (Within.off (g := w.heap.size + 1 + 1) (o := 2) (.int .i64 (wd + wd'))) q4 (by omega)
    have q6 := OwnR.past (Within.off (g := w.heap.size + 1 + 1) (o := 3) (.int .i64 len)) q5 (by omega)
    exact OwnR.wide' (OwnR.by ((Below.refl _ _).alloc (Nat.le_refl _) _) q6) (by omega) (by simp; try omega)
end Go.Proofs.Ytdljbmfmmlcmmaa

/- The program's merged: devices in series. -/
namespace Go.Proofs.Ytdljbmfmmlcmmaa
open Go.RowKit
set_option linter.unusedVariables false
set_option linter.unusedSimpArgs false

theorem OwnR.setAt {w : World} {lo hi G n cap : Nat} {zs : List Int} (h : OwnR w lo hi (.slice (some ⟨G, 0, none⟩) n cap) zs) (i : Nat) (y : Int) : OwnR (w.setCell ⟨G, i, none⟩ (.int .i64 y)) lo hi (.slice (some ⟨G, 0, none⟩) n cap) (zs.set i y) := by
  rcases h with ⟨_, _, e, hz⟩ | ⟨g, cap', cs, e1, e2, e3, e4, e5, e6, e7⟩
  · subst hz
    cases e
    exact .inl ⟨_, _, rfl, rfl⟩
  · have hg : G = g := by have := congrArg Value.ownBlock e1; simpa [Value.ownBlock] using this
    subst hg
    refine .inr ⟨G, cap', cs.setIfInBounds i (.int .i64 y), by rw [List.length_set]; exact e1, e2, e3, by rw [List.length_set]; exact e4, e5, Blk.set e6 i _, fun j x hx => ?_⟩
    rw [List.getElem?_set] at hx
    rw [Array.getElem?_setIfInBounds]
    by_cases e : i = j
    · subst e
      rw [if_pos rfl] at hx ⊢
      split at hx
      · rename_i hlt
        have hz : zs[i]? = some zs[i] := List.getElem?_eq_getElem hlt
        have := (Array.getElem?_eq_some_iff.1 (e7 i _ hz)).1
        rw [if_pos this]
        simp at hx
        rw [hx]
      · cases hx
    · rw [if_neg e] at hx ⊢
      exact e7 j x hx

set_option maxRecDepth 100000 in
set_option maxHeartbeats 2000000 in
theorem mergedSerM_any (x y : Dv) (net : Int) (sx sy : Value) (w : World) (h : IntSl w sx x.pins) (h' : IntSl w sy y.pins) (hx : Shp x) (hy : Shp y) (hk : x.kind ≠ 2)
    (pb : (0 ≤ curP x.pins ∧ curP x.pins ≤ 24) ∧ (0 ≤ curQ x.pins ∧ curQ x.pins ≤ 24)) (qb : (0 ≤ curP y.pins ∧ curP y.pins ≤ 24) ∧ (0 ≤ curQ y.pins ∧ curQ y.pins ≤ 24)) (hn0 : 0 ≤ net ∧ net ≤ 24)
    (n1 : net = curP x.pins ∨ net = curQ x.pins) (n2 : net = curP y.pins ∨ net = curQ y.pins) (hnet : net = serN x y)
    (b2 : 1 ≤ x.len ∧ x.len ≤ 1000000) (b4 : 1 ≤ y.len ∧ y.len ≤ 1000000) :
    Calls Try.prog 57 #[.agg #[.int .i64 x.kind, sx, .int .i64 x.wd, .int .i64 x.len], .agg #[.int .i64 y.kind, sy, .int .i64 y.wd, .int .i64 y.len], .int .i64 net, .bool true] w
      fun e w' => ∃ pv, e = .returned (.agg #[.int .i64 x.kind, pv, .int .i64 (mgW x y true), .int .i64 (mgL x y true)]) ∧ OwnR w' w.heap.size w'.heap.size pv (mgPins x y true) ∧ Below w.heap.size w w' := by
  obtain ⟨g, p, q, hp⟩ : ∃ g p q, x.pins = [g, p, q] := by
    rcases hx with ⟨k2, _⟩ | ⟨_, g, p, q, e⟩
    · exact absurd k2 hk
    · exact ⟨g, p, q, e⟩
  have hP : curP x.pins = p := by rw [hp]; rfl
  have hQ : curQ x.pins = q := by rw [hp]; rfl
  have hmp : mgPins x y true = [g, otherN p q net, otherN (curP y.pins) (curQ y.pins) net] := by
    unfold mgPins
    rw [if_pos rfl, if_neg hk, hP, hQ, hnet, hp]
    rfl
  have o1 := otherN_sum n1
  have o2 := otherN_sum n2
  rw [hP, hQ] at o1 pb
  rw [hmp]
  have hW : mgW x y true = x.wd := by simp [mgW, hk]
  have hL : mgL x y true = x.len + y.len := by simp [mgL, hk]
  rw [hW, hL]
  have HCP := Lib.hid (fun w h => copyDevice_any x.kind x.wd x.len sx x.pins w h (by rw [hp]; simp))
  have HC1 := Lib.hid (fun w h => currentPins_any x sx w h hx)
  have HC2 := Lib.hid (fun w h => currentPins_any y sy w h hy)
  rw [hP, hQ] at HC1
  have H := Lib.hid h
  have H' := Lib.hid h'
  obtain ⟨r, hr⟩ : ∃ r, curP y.pins = r := ⟨_, rfl⟩
  obtain ⟨s, hs⟩ : ∃ s, curQ y.pins = s := ⟨_, rfl⟩
  rw [hr, hs] at HC2 o2 qb ⊢
  rw [← o1, ← o2]
  rw [hp] at HCP H
  obtain ⟨a, c, rfl⟩ := h.len
  obtain ⟨a', c', rfl⟩ := h'.len
  rw [hp]
  have hl3 : x.pins.length = 3 := by rw [hp]; rfl
  obtain ⟨kind, pins, wd, len⟩ := x
  obtain ⟨kind', pins', wd', len'⟩ := y
  dsimp only at HCP HC1 HC2 H H' b2 b4 hk hl3 hp ⊢
  subst hp
  have e1 : (kind == 2) = false := by simpa using hk
  have w5' : IntKind.i64.wrap (len + len') = len + len' := by simp [IntKind.wrap, IntKind.bits, IntKind.signed]; omega
  clear h h' hx hy hk hP hQ hmp hW hL hr hs n1 n2 hnet o1 o2 hl3
  go_enter Try.func57, Try.ntmps57
  go_wp2_with fail
  refine (HCP.out _ (H.out.by (by ((repeat (first | (with_reducible exact Below.refl _ _) | (with_reducible refine below_drewN ?_ _) | (with_reducible refine Below.drew ?_) | (with_reducible refine below_al ?_ _) | (with_reducible refine below_on (by assumption) ?_) | ((with_reducible refine Below.setCell ?_ ?_ _); rotate_left; focus (first | omega | (simp; done) | (simp; omega))) | (with_reducible assumption))); done)))).mono ?_
  rintro e w1 ⟨pv, rfl, hO, hb1⟩
  have kA : Blk w1 w.heap.size #[.int .i64 kind, .slice a 3 c, .int .i64 wd, .int .i64 len] 35 := (by ((repeat (first | (with_reducible assumption) | (with_reducible refine Blk.drewN ?_ _) | (with_reducible refine Blk.drew ?_) | ((with_reducible refine Blk.new _ ?_); focus (first | omega | (simp; done) | (simp; omega))) | (with_reducible refine Blk.past ?_ _) | ((with_reducible refine Blk.apart ?_ _ _ _ ?_); rotate_left; focus (first | omega | (simp; done) | (simp; omega))) | (with_reducible refine Blk.by (by assumption) ?_))); done))
  have kB : Blk w1 (w.heap.size + 1) #[.int .i64 kind', .slice a' pins'.length c', .int .i64 wd', .int .i64 len'] 35 := (by ((repeat (first | (with_reducible assumption) | (with_reducible refine Blk.drewN ?_ _) | (with_reducible refine Blk.drew ?_) | ((with_reducible refine Blk.new _ ?_); focus (first | omega | (simp; done) | (simp; omega))) | (with_reducible refine Blk.past ?_ _) | ((with_reducible refine Blk.apart ?_ _ _ _ ?_); rotate_left; focus (first | omega | (simp; done) | (simp; omega))) | (with_reducible refine Blk.by (by assumption) ?_))); done))
  have kR : Blk w1 (w.heap.size + 1 + 1) #[.int .i64 0, .slice none 0 0, .int .i64 0, .int .i64 0] 35 := (by ((repeat (first | (with_reducible assumption) | (with_reducible refine Blk.drewN ?_ _) | (with_reducible refine Blk.drew ?_) | ((with_reducible refine Blk.new _ ?_); focus (first | omega | (simp; done) | (simp; omega))) | (with_reducible refine Blk.past ?_ _) | ((with_reducible refine Blk.apart ?_ _ _ _ ?_); rotate_left; focus (first | omega | (simp; done) | (simp; omega))) | (with_reducible refine Blk.by (by assumption) ?_))); done))
  have hW1 : Below w.heap.size w w1 := (by ((repeat (first | (with_reducible exact Below.refl _ _) | (with_reducible refine below_drewN ?_ _) | (with_reducible refine Below.drew ?_) | (with_reducible refine below_al ?_ _) | (with_reducible refine below_on (by assumption) ?_) | ((with_reducible refine Below.setCell ?_ ?_ _); rotate_left; focus (first | omega | (simp; done) | (simp; omega))) | (with_reducible assumption))); done))
  have hOR : OwnR w1 (w.heap.size + 1 + 1 + 1) w1.heap.size pv [g, p, q] := by have h0 := hO.toR; simp only [World.size_alloc] at h0; exact h0
  obtain ⟨G, cap, cs, rfl, hG, hcap, hmx, hBk, hcs⟩ := OwnR.cells hOR (by simp)
  have HO := Lib.hid hOR
  have qA := kA.cell
  have lA := kA.lt
  have qB := kB.cell
  have lB := kB.lt
  clear hO hb1 hOR
  go_wp2_with fail
  refine (HC1.out _ (H.out.by (by ((repeat (first | (with_reducible exact Below.refl _ _) | (with_reducible refine below_drewN ?_ _) | (with_reducible refine Below.drew ?_) | (with_reducible refine below_al ?_ _) | (with_reducible refine below_on (by assumption) ?_) | ((with_reducible refine Below.setCell ?_ ?_ _); rotate_left; focus (first | omega | (simp; done) | (simp; omega))) | (with_reducible assumption))); done)))).mono ?_
  rintro e w2 ⟨rfl, hb2⟩
  obtain ⟨D, hD⟩ : ∃ D, w1.heap.size = D := ⟨_, rfl⟩
  have kB2 : Blk w2 (w.heap.size + 1) #[.int .i64 kind', .slice a' pins'.length c', .int .i64 wd', .int .i64 len'] 35 := (by ((repeat (first | (with_reducible assumption) | (with_reducible refine Blk.drewN ?_ _) | (with_reducible refine Blk.drew ?_) | ((with_reducible refine Blk.new _ ?_); focus (first | omega | (simp; done) | (simp; omega))) | (with_reducible refine Blk.past ?_ _) | ((with_reducible refine Blk.apart ?_ _ _ _ ?_); rotate_left; focus (first | omega | (simp; done) | (simp; omega))) | (with_reducible refine Blk.by (by assumption) ?_))); done))
  have kR2 : Blk w2 (w.heap.size + 1 + 1) #[.int .i64 0, .slice none 0 0, .int .i64 0, .int .i64 0] 35 := (by ((repeat (first | (with_reducible assumption) | (with_reducible refine Blk.drewN ?_ _) | (with_reducible refine Blk.drew ?_) | ((with_reducible refine Blk.new _ ?_); focus (first | omega | (simp; done) | (simp; omega))) | (with_reducible refine Blk.past ?_ _) | ((with_reducible refine Blk.apart ?_ _ _ _ ?_); rotate_left; focus (first | omega | (simp; done) | (simp; omega))) | (with_reducible refine Blk.by (by assumption) ?_))); done))
  have kA2 : Blk w2 w.heap.size #[.int .i64 kind, .slice a 3 c, .int .i64 wd, .int .i64 len] 35 := (by ((repeat (first | (with_reducible assumption) | (with_reducible refine Blk.drewN ?_ _) | (with_reducible refine Blk.drew ?_) | ((with_reducible refine Blk.new _ ?_); focus (first | omega | (simp; done) | (simp; omega))) | (with_reducible refine Blk.past ?_ _) | ((with_reducible refine Blk.apart ?_ _ _ _ ?_); rotate_left; focus (first | omega | (simp; done) | (simp; omega))) | (with_reducible refine Blk.by (by assumption) ?_))); done))
  have kD2 : Blk w2 w1.heap.size #[.int .i64 kind, .slice (some ⟨G, 0, none⟩) 3 cap, .int .i64 wd, .int .i64 len] 35 := (by ((repeat (first | (with_reducible assumption) | (with_reducible refine Blk.drewN ?_ _) | (with_reducible refine Blk.drew ?_) | ((with_reducible refine Blk.new _ ?_); focus (first | omega | (simp; done) | (simp; omega))) | (with_reducible refine Blk.past ?_ _) | ((with_reducible refine Blk.apart ?_ _ _ _ ?_); rotate_left; focus (first | omega | (simp; done) | (simp; omega))) | (with_reducible refine Blk.by (by assumption) ?_))); done))
  have kG2 : Blk w2 G cs 2 := (by ((repeat (first | (with_reducible assumption) | (with_reducible refine Blk.drewN ?_ _) | (with_reducible refine Blk.drew ?_) | ((with_reducible refine Blk.new _ ?_); focus (first | omega | (simp; done) | (simp; omega))) | (with_reducible refine Blk.past ?_ _) | ((with_reducible refine Blk.apart ?_ _ _ _ ?_); rotate_left; focus (first | omega | (simp; done) | (simp; omega))) | (with_reducible refine Blk.by (by assumption) ?_))); done))
  have HO2 := Lib.hid (OwnR.by hb2 (OwnR.by ((Below.refl _ w1).alloc (Nat.le_refl _) _) HO.out))
  have hW2 : Below w.heap.size w w2 := (by ((repeat (first | (with_reducible exact Below.refl _ _) | (with_reducible refine below_drewN ?_ _) | (with_reducible refine Below.drew ?_) | (with_reducible refine below_al ?_ _) | (with_reducible refine below_on (by assumption) ?_) | ((with_reducible refine Below.setCell ?_ ?_ _); rotate_left; focus (first | omega | (simp; done) | (simp; omega))) | (with_reducible assumption))); done))
  have lR := kR.lt
  rw [hD] at kD2 hG HO2 lR
  rw [hD]
  have qB2 := kB2.cell
  have lB2 := kB2.lt
  clear hb2 qA lA qB lB kA kB kR hD
  go_wp2_with fail
  refine (HC2.out _ (H'.out.by (by ((repeat (first | (with_reducible exact Below.refl _ _) | (with_reducible refine below_drewN ?_ _) | (with_reducible refine Below.drew ?_) | (with_reducible refine below_al ?_ _) | (with_reducible refine below_on (by assumption) ?_) | ((with_reducible refine Below.setCell ?_ ?_ _); rotate_left; focus (first | omega | (simp; done) | (simp; omega))) | (with_reducible assumption))); done)))).mono ?_
  rintro e w3 ⟨rfl, hb3⟩
  have kB3 := Blk.by hb3 kB2
  have kR3 := Blk.by hb3 kR2
  have kA3 := Blk.by hb3 kA2
  have kD3 := Blk.by hb3 kD2
  have kG3 := Blk.by hb3 kG2
  have HO3 := Lib.hid (OwnR.by hb3 HO2.out)
  have hW3 := below_on hb3 hW2
  have qD3 := kD3.cell
  have lD3 := kD3.lt
  clear hb3 qB2 lB2 kB2 kR2 kA2 kD2 kG2
  go_upto_region 6 with fail
  have fG := kG3.free
  have lG := kG3.lt
  have s1 : (cs[1]?).isSome = true := by
    have := hcs 1 p (by simp)
    rw [this]; rfl
  have s2 : (cs[2]?).isSome = true := by
    have := hcs 2 q (by simp)
    rw [this]; rfl
  have c1' : w3.cell? ⟨G, 1, none⟩ = some (.int .i64 p) := (kG3.cell 1).trans (hcs 1 p (by simp))
  have c2' : w3.cell? ⟨G, 2, none⟩ = some (.int .i64 q) := (kG3.cell 2).trans (hcs 2 q (by simp))
  go_region
  obtain ⟨w4, hw4⟩ : ∃ z, z = ((w3.setCell ⟨G, 1, none⟩ (.int .i64 (p + q - net))).setCell ⟨G, 2, none⟩ (.int .i64 (r + s - net))).drew := ⟨_, rfl⟩
  have HO4 : Hid (OwnR w4 (w.heap.size + 1 + 1 + 1) D (.slice (some ⟨G, 0, none⟩) 3 cap) [g, p + q - net, r + s - net]) := Lib.hid (by
    rw [hw4]
    exact OwnR.by (Below.refl _ _).drew ((HO3.out.setAt 1 (p + q - net)).setAt 2 (r + s - net)))
  have kB4 : Blk w4 (w.heap.size + 1) #[.int .i64 kind', .slice a' pins'.length c', .int .i64 wd', .int .i64 len'] 35 := by rw [hw4]; exact ((kB3.apart G _ _ (by omega)).apart G _ _ (by omega)).drew
  have kA4 : Blk w4 w.heap.size #[.int .i64 kind, .slice a 3 c, .int .i64 wd, .int .i64 len] 35 := by rw [hw4]; exact ((kA3.apart G _ _ (by omega)).apart G _ _ (by omega)).drew
  have kR4 : Blk w4 (w.heap.size + 1 + 1) #[.int .i64 0, .slice none 0 0, .int .i64 0, .int .i64 0] 35 := by rw [hw4]; exact ((kR3.apart G _ _ (by omega)).apart G _ _ (by omega)).drew
  have kD4 : Blk w4 D #[.int .i64 kind, .slice (some ⟨G, 0, none⟩) 3 cap, .int .i64 wd, .int .i64 len] 35 := by rw [hw4]; exact ((kD3.apart G _ _ (by omega)).apart G _ _ (by omega)).drew
  have hW4 : Below w.heap.size w w4 := by rw [hw4]; exact ((hW3.setCell (by simp; omega) _).setCell (by simp; omega) _).drew
  rw [← hw4]
  have qA4 := kA4.cell
  have lA4 := kA4.lt
  have qB4 := kB4.cell
  have lB4 := kB4.lt
  have qD4 := kD4.cell
  have fD4 := kD4.free
  have lD4 := kD4.lt
  have qR4 := kR4.cell
  have fR4 := kR4.free
  have lR4 := kR4.lt
  clear hw4 qD3 lD3 fG lG s1 s2 c1' c2' kA3 kB3 kR3 kD3 kG3
  go_wp2
  refine bodyPost_ret (v := .agg #[.int .i64 kind, .slice (some ⟨G, 0, none⟩) 3 cap, .int .i64 wd, .int .i64 (len + len')]) (by simp [results, Try.results57, go_sem, *]) rfl ⟨_, rfl, ?_, (by ((repeat (first | (with_reducible exact Below.refl _ _) | (with_reducible refine below_drewN ?_ _) | (with_reducible refine Below.drew ?_) | (with_reducible refine below_al ?_ _) | (with_reducible refine below_on (by assumption) ?_) | ((with_reducible refine Below.setCell ?_ ?_ _); rotate_left; focus (first | omega | (simp; done) | (simp; omega))) | (with_reducible assumption))); done))⟩
  have q2 := OwnR.past (Within.off (g := D) (o := 3) (.int .i64 (len + len'))) HO4.out (by omega)
  have q3 := OwnR.past (Within.off (g := w.heap.size + 1 + 1) (o := 0) (.int .i64 kind)) q2 (by omega)
  have q4 := OwnR.past (Within.off (g := w.heap.size + 1 + 1) (o := 1) (.slice (some ⟨G, 0, none⟩) 3 cap)) q3 (by omega)
  have q5 := OwnR.past (Within.off (g := w.heap.size + 1 + 1) (o := 2) (.int .i64 wd)) q4 (by omega)
  have q6 := OwnR.past (Within.off (g := w.heap.size + 1 + 1) (o := 3) (.int .i64 (len + len'))) q5 (by omega)
  exact OwnR.wide' q6 (by omega) (by simp; omega)
end Go.Proofs.Ytdljbmfmmlcmmaa

/- The program's merged: resistors in series. -/
namespace Go.Proofs.Ytdljbmfmmlcmmaa
open Go.RowKit
set_option linter.unusedVariables false
set_option linter.unusedSimpArgs false

set_option maxRecDepth 100000 in
set_option maxHeartbeats 2000000 in
theorem mergedSerR_any (x y : Dv) (net : Int) (sx sy : Value) (w : World) (h : IntSl w sx x.pins) (h' : IntSl w sy y.pins) (hx : Shp x) (hy : Shp y) (hk : x.kind = 2)
    (pb : (0 ≤ curP x.pins ∧ curP x.pins ≤ 24) ∧ (0 ≤ curQ x.pins ∧ curQ x.pins ≤ 24)) (qb : (0 ≤ curP y.pins ∧ curP y.pins ≤ 24) ∧ (0 ≤ curQ y.pins ∧ curQ y.pins ≤ 24)) (hn0 : 0 ≤ net ∧ net ≤ 24)
    (n1 : net = curP x.pins ∨ net = curQ x.pins) (n2 : net = curP y.pins ∨ net = curQ y.pins) (hnet : net = serN x y)
    (b1 : 1 ≤ x.wd ∧ x.wd ≤ 1000000) (b2 : 1 ≤ x.len ∧ x.len ≤ 1000000) (b3 : 1 ≤ y.wd ∧ y.wd ≤ 1000000) (b4 : 1 ≤ y.len ∧ y.len ≤ 1000000) :
    Calls Try.prog 57 #[.agg #[.int .i64 x.kind, sx, .int .i64 x.wd, .int .i64 x.len], .agg #[.int .i64 y.kind, sy, .int .i64 y.wd, .int .i64 y.len], .int .i64 net, .bool true] w
      fun e w' => ∃ pv, e = .returned (.agg #[.int .i64 x.kind, pv, .int .i64 (mgW x y true), .int .i64 (mgL x y true)]) ∧ OwnR w' w.heap.size w'.heap.size pv (mgPins x y true) ∧ Below w.heap.size w w' := by
  obtain ⟨p, q, hp⟩ : ∃ p q, x.pins = [p, q] := by
    rcases hx with ⟨_, p, q, e⟩ | ⟨k2, _, _, _, _⟩
    · exact ⟨p, q, e⟩
    · omega
  have hP : curP x.pins = p := by rw [hp]; rfl
  have hQ : curQ x.pins = q := by rw [hp]; rfl
  have hmp : mgPins x y true = [otherN p q net, otherN (curP y.pins) (curQ y.pins) net] := by
    unfold mgPins
    rw [if_pos rfl, if_pos hk, hP, hQ, hnet]
    rfl
  have o1 := otherN_sum n1
  have o2 := otherN_sum n2
  rw [hP, hQ] at o1 pb
  rw [hmp]
  have hW : mgW x y true = redN (x.wd * y.len + y.wd * x.len) (x.len * y.len) := by simp [mgW, hk]
  have hL : mgL x y true = redD (x.wd * y.len + y.wd * x.len) (x.len * y.len) := by simp [mgL, hk]
  rw [hW, hL]
  have HCP := Lib.hid (fun w h => copyDevice_any x.kind x.wd x.len sx x.pins w h (by rw [hp]; simp))
  have HC1 := Lib.hid (fun w h => currentPins_any x sx w h hx)
  have HC2 := Lib.hid (fun w h => currentPins_any y sy w h hy)
  rw [hP, hQ] at HC1
  have p1 := mul_bd b1.1 b1.2 b4.1 b4.2
  have p2 := mul_bd b3.1 b3.2 b2.1 b2.2
  have p3 := mul_bd b2.1 b2.2 b4.1 b4.2
  have H := Lib.hid h
  have H' := Lib.hid h'
  obtain ⟨r, hr⟩ : ∃ r, curP y.pins = r := ⟨_, rfl⟩
  obtain ⟨s, hs⟩ : ∃ s, curQ y.pins = s := ⟨_, rfl⟩
  rw [hr, hs] at HC2 o2 qb ⊢
  rw [← o1, ← o2]
  rw [hp] at HCP H
  obtain ⟨a, c, rfl⟩ := h.len
  obtain ⟨a', c', rfl⟩ := h'.len
  rw [hp]
  have hl3 : x.pins.length = 2 := by rw [hp]; rfl
  obtain ⟨kind, pins, wd, len⟩ := x
  obtain ⟨kind', pins', wd', len'⟩ := y
  dsimp only at HCP HC1 HC2 H H' b1 b2 b3 b4 p1 p2 p3 hk hl3 hp ⊢
  subst hp
  have e1 : (kind == 2) = true := by simpa using hk
  have HLO1 := Lib.hid (fun w => lowest_any (wd * len' + wd' * len) (len * len') w (by omega) (by omega) (by omega) (by omega) (by omega))
  generalize redN (wd * len' + wd' * len) (len * len') = R1 at *
  generalize redD (wd * len' + wd' * len) (len * len') = R2 at *
  have w1' : IntKind.i64.wrap (wd * len') = wd * len' := by simp [IntKind.wrap, IntKind.bits, IntKind.signed]; omega
  have w2' : IntKind.i64.wrap (wd' * len) = wd' * len := by simp [IntKind.wrap, IntKind.bits, IntKind.signed]; omega
  have w3' : IntKind.i64.wrap (len * len') = len * len' := by simp [IntKind.wrap, IntKind.bits, IntKind.signed]; omega
  have w5' : IntKind.i64.wrap (wd * len' + wd' * len) = wd * len' + wd' * len := by simp [IntKind.wrap, IntKind.bits, IntKind.signed]; omega
  clear h h' hx hy hk hP hQ hmp hW hL hr hs n1 n2 hnet o1 o2 hl3
  go_enter Try.func57, Try.ntmps57
  go_wp2_with fail
  refine (HCP.out _ (H.out.by (by ((repeat (first | (with_reducible exact Below.refl _ _) | (with_reducible refine below_drewN ?_ _) | (with_reducible refine Below.drew ?_) | (with_reducible refine below_al ?_ _) | (with_reducible refine below_on (by assumption) ?_) | ((with_reducible refine Below.setCell ?_ ?_ _); rotate_left; focus (first | omega | (simp; done) | (simp; omega))) | (with_reducible assumption))); done)))).mono ?_
  rintro e w1 ⟨pv, rfl, hO, hb1⟩
  have kA : Blk w1 w.heap.size #[.int .i64 kind, .slice a 2 c, .int .i64 wd, .int .i64 len] 35 := (by ((repeat (first | (with_reducible assumption) | (with_reducible refine Blk.drewN ?_ _) | (with_reducible refine Blk.drew ?_) | ((with_reducible refine Blk.new _ ?_); focus (first | omega | (simp; done) | (simp; omega))) | (with_reducible refine Blk.past ?_ _) | ((with_reducible refine Blk.apart ?_ _ _ _ ?_); rotate_left; focus (first | omega | (simp; done) | (simp; omega))) | (with_reducible refine Blk.by (by assumption) ?_))); done))
  have kB : Blk w1 (w.heap.size + 1) #[.int .i64 kind', .slice a' pins'.length c', .int .i64 wd', .int .i64 len'] 35 := (by ((repeat (first | (with_reducible assumption) | (with_reducible refine Blk.drewN ?_ _) | (with_reducible refine Blk.drew ?_) | ((with_reducible refine Blk.new _ ?_); focus (first | omega | (simp; done) | (simp; omega))) | (with_reducible refine Blk.past ?_ _) | ((with_reducible refine Blk.apart ?_ _ _ _ ?_); rotate_left; focus (first | omega | (simp; done) | (simp; omega))) | (with_reducible refine Blk.by (by assumption) ?_))); done))
  have kR : Blk w1 (w.heap.size + 1 + 1) #[.int .i64 0, .slice none 0 0, .int .i64 0, .int .i64 0] 35 := (by ((repeat (first | (with_reducible assumption) | (with_reducible refine Blk.drewN ?_ _) | (with_reducible refine Blk.drew ?_) | ((with_reducible refine Blk.new _ ?_); focus (first | omega | (simp; done) | (simp; omega))) | (with_reducible refine Blk.past ?_ _) | ((with_reducible refine Blk.apart ?_ _ _ _ ?_); rotate_left; focus (first | omega | (simp; done) | (simp; omega))) | (with_reducible refine Blk.by (by assumption) ?_))); done))
  have hW1 : Below w.heap.size w w1 := (by ((repeat (first | (with_reducible exact Below.refl _ _) | (with_reducible refine below_drewN ?_ _) | (with_reducible refine Below.drew ?_) | (with_reducible refine below_al ?_ _) | (with_reducible refine below_on (by assumption) ?_) | ((with_reducible refine Below.setCell ?_ ?_ _); rotate_left; focus (first | omega | (simp; done) | (simp; omega))) | (with_reducible assumption))); done))
  have hOR : OwnR w1 (w.heap.size + 1 + 1 + 1) w1.heap.size pv [p, q] := by have h0 := hO.toR; simp only [World.size_alloc] at h0; exact h0
  obtain ⟨G, cap, cs, rfl, hG, hcap, hmx, hBk, hcs⟩ := OwnR.cells hOR (by simp)
  have HO := Lib.hid hOR
  have qA := kA.cell
  have lA := kA.lt
  have qB := kB.cell
  have lB := kB.lt
  clear hO hb1 hOR
  go_wp2_with fail
  refine (HC1.out _ (H.out.by (by ((repeat (first | (with_reducible exact Below.refl _ _) | (with_reducible refine below_drewN ?_ _) | (with_reducible refine Below.drew ?_) | (with_reducible refine below_al ?_ _) | (with_reducible refine below_on (by assumption) ?_) | ((with_reducible refine Below.setCell ?_ ?_ _); rotate_left; focus (first | omega | (simp; done) | (simp; omega))) | (with_reducible assumption))); done)))).mono ?_
  rintro e w2 ⟨rfl, hb2⟩
  obtain ⟨D, hD⟩ : ∃ D, w1.heap.size = D := ⟨_, rfl⟩
  have kB2 : Blk w2 (w.heap.size + 1) #[.int .i64 kind', .slice a' pins'.length c', .int .i64 wd', .int .i64 len'] 35 := (by ((repeat (first | (with_reducible assumption) | (with_reducible refine Blk.drewN ?_ _) | (with_reducible refine Blk.drew ?_) | ((with_reducible refine Blk.new _ ?_); focus (first | omega | (simp; done) | (simp; omega))) | (with_reducible refine Blk.past ?_ _) | ((with_reducible refine Blk.apart ?_ _ _ _ ?_); rotate_left; focus (first | omega | (simp; done) | (simp; omega))) | (with_reducible refine Blk.by (by assumption) ?_))); done))
  have kR2 : Blk w2 (w.heap.size + 1 + 1) #[.int .i64 0, .slice none 0 0, .int .i64 0, .int .i64 0] 35 := (by ((repeat (first | (with_reducible assumption) | (with_reducible refine Blk.drewN ?_ _) | (with_reducible refine Blk.drew ?_) | ((with_reducible refine Blk.new _ ?_); focus (first | omega | (simp; done) | (simp; omega))) | (with_reducible refine Blk.past ?_ _) | ((with_reducible refine Blk.apart ?_ _ _ _ ?_); rotate_left; focus (first | omega | (simp; done) | (simp; omega))) | (with_reducible refine Blk.by (by assumption) ?_))); done))
  have kA2 : Blk w2 w.heap.size #[.int .i64 kind, .slice a 2 c, .int .i64 wd, .int .i64 len] 35 := (by ((repeat (first | (with_reducible assumption) | (with_reducible refine Blk.drewN ?_ _) | (with_reducible refine Blk.drew ?_) | ((with_reducible refine Blk.new _ ?_); focus (first | omega | (simp; done) | (simp; omega))) | (with_reducible refine Blk.past ?_ _) | ((with_reducible refine Blk.apart ?_ _ _ _ ?_); rotate_left; focus (first | omega | (simp; done) | (simp; omega))) | (with_reducible refine Blk.by (by assumption) ?_))); done))
  have kD2 : Blk w2 w1.heap.size #[.int .i64 kind, .slice (some ⟨G, 0, none⟩) 2 cap, .int .i64 wd, .int .i64 len] 35 := (by ((repeat (first | (with_reducible assumption) | (with_reducible refine Blk.drewN ?_ _) | (with_reducible refine Blk.drew ?_) | ((with_reducible refine Blk.new _ ?_); focus (first | omega | (simp; done) | (simp; omega))) | (with_reducible refine Blk.past ?_ _) | ((with_reducible refine Blk.apart ?_ _ _ _ ?_); rotate_left; focus (first | omega | (simp; done) | (simp; omega))) | (with_reducible refine Blk.by (by assumption) ?_))); done))
  have kG2 : Blk w2 G cs 2 := (by ((repeat (first | (with_reducible assumption) | (with_reducible refine Blk.drewN ?_ _) | (with_reducible refine Blk.drew ?_) | ((with_reducible refine Blk.new _ ?_); focus (first | omega | (simp; done) | (simp; omega))) | (with_reducible refine Blk.past ?_ _) | ((with_reducible refine Blk.apart ?_ _ _ _ ?_); rotate_left; focus (first | omega | (simp; done) | (simp; omega))) | (with_reducible refine Blk.by (by assumption) ?_))); done))
  have HO2 := Lib.hid (OwnR.by hb2 (OwnR.by ((Below.refl _ w1).alloc (Nat.le_refl _) _) HO.out))
  have hW2 : Below w.heap.size w w2 := (by ((repeat (first | (with_reducible exact Below.refl _ _) | (with_reducible refine below_drewN ?_ _) | (with_reducible refine Below.drew ?_) | (with_reducible refine below_al ?_ _) | (with_reducible refine below_on (by assumption) ?_) | ((with_reducible refine Below.setCell ?_ ?_ _); rotate_left; focus (first | omega | (simp; done) | (simp; omega))) | (with_reducible assumption))); done))
  have lR := kR.lt
  rw [hD] at kD2 hG HO2 lR
  rw [hD]
  have qB2 := kB2.cell
  have lB2 := kB2.lt
  clear hb2 qA lA qB lB kA kB kR hD
  go_wp2_with fail
  refine (HC2.out _ (H'.out.by (by ((repeat (first | (with_reducible exact Below.refl _ _) | (with_reducible refine below_drewN ?_ _) | (with_reducible refine Below.drew ?_) | (with_reducible refine below_al ?_ _) | (with_reducible refine below_on (by assumption) ?_) | ((with_reducible refine Below.setCell ?_ ?_ _); rotate_left; focus (first | omega | (simp; done) | (simp; omega))) | (with_reducible assumption))); done)))).mono ?_
  rintro e w3 ⟨rfl, hb3⟩
  have kB3 := Blk.by hb3 kB2
  have kR3 := Blk.by hb3 kR2
  have kA3 := Blk.by hb3 kA2
  have kD3 := Blk.by hb3 kD2
  have kG3 := Blk.by hb3 kG2
  have HO3 := Lib.hid (OwnR.by hb3 HO2.out)
  have hW3 := below_on hb3 hW2
  have qD3 := kD3.cell
  have lD3 := kD3.lt
  clear hb3 qB2 lB2 kB2 kR2 kA2 kD2 kG2
  go_upto_region 6 with fail
  have fG := kG3.free
  have lG := kG3.lt
  have s1 : (cs[0]?).isSome = true := by
    have := hcs 0 p (by simp)
    rw [this]; rfl
  have s2 : (cs[1]?).isSome = true := by
    have := hcs 1 q (by simp)
    rw [this]; rfl
  have c1' : w3.cell? ⟨G, 0, none⟩ = some (.int .i64 p) := (kG3.cell 0).trans (hcs 0 p (by simp))
  have c2' : w3.cell? ⟨G, 1, none⟩ = some (.int .i64 q) := (kG3.cell 1).trans (hcs 1 q (by simp))
  go_region
  obtain ⟨w4, hw4⟩ : ∃ z, z = ((w3.setCell ⟨G, 0, none⟩ (.int .i64 (p + q - net))).setCell ⟨G, 1, none⟩ (.int .i64 (r + s - net))).drew := ⟨_, rfl⟩
  have HO4 : Hid (OwnR w4 (w.heap.size + 1 + 1 + 1) D (.slice (some ⟨G, 0, none⟩) 2 cap) [p + q - net, r + s - net]) := Lib.hid (by
    rw [hw4]
    exact OwnR.by (Below.refl _ _).drew ((HO3.out.setAt 0 (p + q - net)).setAt 1 (r + s - net)))
  have kB4 : Blk w4 (w.heap.size + 1) #[.int .i64 kind', .slice a' pins'.length c', .int .i64 wd', .int .i64 len'] 35 := by rw [hw4]; exact ((kB3.apart G _ _ (by omega)).apart G _ _ (by omega)).drew
  have kA4 : Blk w4 w.heap.size #[.int .i64 kind, .slice a 2 c, .int .i64 wd, .int .i64 len] 35 := by rw [hw4]; exact ((kA3.apart G _ _ (by omega)).apart G _ _ (by omega)).drew
  have kR4 : Blk w4 (w.heap.size + 1 + 1) #[.int .i64 0, .slice none 0 0, .int .i64 0, .int .i64 0] 35 := by rw [hw4]; exact ((kR3.apart G _ _ (by omega)).apart G _ _ (by omega)).drew
  have kD4 : Blk w4 D #[.int .i64 kind, .slice (some ⟨G, 0, none⟩) 2 cap, .int .i64 wd, .int .i64 len] 35 := by rw [hw4]; exact ((kD3.apart G _ _ (by omega)).apart G _ _ (by omega)).drew
  have hW4 : Below w.heap.size w w4 := by rw [hw4]; exact ((hW3.setCell (by simp; omega) _).setCell (by simp; omega) _).drew
  rw [← hw4]
  have qA4 := kA4.cell
  have lA4 := kA4.lt
  have qB4 := kB4.cell
  have lB4 := kB4.lt
  have qD4 := kD4.cell
  have fD4 := kD4.free
  have lD4 := kD4.lt
  have qR4 := kR4.cell
  have fR4 := kR4.free
  have lR4 := kR4.lt
  clear hw4 qD3 lD3 fG lG s1 s2 c1' c2' kA3 kB3 kR3 kD3 kG3
  go_wp2_with fail
  refine (HLO1.out _).mono ?_
  rintro e w5 ⟨rfl, hb5⟩
  have kR5 := Blk.by hb5 kR4
  have kD5 := Blk.by hb5 kD4
  have hW5 := below_on hb5 hW4
  have HO5 := Lib.hid (OwnR.by hb5 HO4.out)
  obtain ⟨V, hV⟩ : ∃ V, w5.heap.size = V := ⟨_, rfl⟩
  have lDV : D < V := by rw [← hV]; exact kD5.lt
  obtain ⟨w6, hw6⟩ : ∃ z, z = w5.alloc (.cells #[.int .i64 R1, .int .i64 R2] 91) := ⟨_, rfl⟩
  have hal : Below w5.heap.size w5 w6 := by rw [hw6]; exact (Below.refl _ w5).alloc (Nat.le_refl _) _
  have kV6 : Blk w6 V #[.int .i64 R1, .int .i64 R2] 91 := by rw [hw6]; exact Blk.new _ hV.symm
  have kR6 := Blk.by hal kR5
  have kD6 := Blk.by hal kD5
  have hW6 := below_on hal hW5
  have HO6 := Lib.hid (OwnR.by hal HO5.out)
  clear hb5 qA4 lA4 qB4 lB4 qD4 fD4 lD4 qR4 fR4 lR4 kR4 kD4 kA4 kB4 hal
  go_upto_region 12 with fail
  (try rw [← hw6])
  (try rw [hV])
  clear hw6 hV
  have qV := kV6.cell
  have qD := kD6.cell
  have fD := kD6.free
  have lD := kD6.lt
  have qR := kR6.cell
  have fR := kR6.free
  have lR6 := kR6.lt
  have nDV : ¬ D = V := by omega
  have nVD : ¬ V = D := by omega
  go_region
  all_goals go_wp2
  all_goals
    refine bodyPost_ret (v := .agg #[.int .i64 kind, .slice (some ⟨G, 0, none⟩) 2 cap, .int .i64 R1, .int .i64 R2]) (by simp [results, Try.results57, go_sem, *]) rfl ⟨_, rfl, ?_, ?_⟩
    · have q1 := OwnR.past (Within.off (g := D) (o := 2) (.int .i64 R1)) HO6.out (by omega)
      have q2 := OwnR.past (Within.off (g := D) (o := 3) (.int .i64 R2)) q1 (by omega)
      have q3 := OwnR.past (Within.off (g := w.heap.size + 1 + 1) (o := 0) (.int .i64 kind)) q2 (by omega)
      have q4 := OwnR.past (Within.off (g := w.heap.size + 1 + 1) (o := 1) (.slice (some ⟨G, 0, none⟩) 2 cap)) q3 (by omega)
      have q5 := OwnR.past (Within.off (g := w.heap.size + 1 + 1) (o := 2) (.int .i64 R1)) q4 (by omega)
      have q6 := OwnR.past (Within.off (g := w.heap.size + 1 + 1) (o := 3) (.int .i64 R2)) q5 (by omega)
      exact OwnR.wide' (OwnR.by (Below.refl _ _).drew q6) (by omega) (by simp; omega)
    · ((repeat (first | (with_reducible exact Below.refl _ _) | (with_reducible refine below_drewN ?_ _) | (with_reducible refine Below.drew ?_) | (with_reducible refine below_al ?_ _) | (with_reducible refine below_on (by assumption) ?_) | ((with_reducible refine Below.setCell ?_ ?_ _); rotate_left; focus (first | omega | (simp; done) | (simp; omega))) | (with_reducible assumption))); done)
end Go.Proofs.Ytdljbmfmmlcmmaa

/- The program's merged: one contract. -/
namespace Go.Proofs.Ytdljbmfmmlcmmaa
open Go.RowKit
set_option linter.unusedVariables false
set_option linter.unusedSimpArgs false

theorem merged_any (x y : Dv) (ser : Bool) (net : Int) (sx sy : Value) (w : World) (h : IntSl w sx x.pins) (h' : IntSl w sy y.pins) (hx : Shp x) (hy : Shp y)
    (pb : (0 ≤ curP x.pins ∧ curP x.pins ≤ 24) ∧ (0 ≤ curQ x.pins ∧ curQ x.pins ≤ 24)) (qb : (0 ≤ curP y.pins ∧ curP y.pins ≤ 24) ∧ (0 ≤ curQ y.pins ∧ curQ y.pins ≤ 24))
    (b1 : 1 ≤ x.wd ∧ x.wd ≤ 1000000) (b2 : 1 ≤ x.len ∧ x.len ≤ 1000000) (b3 : 1 ≤ y.wd ∧ y.wd ≤ 1000000) (b4 : 1 ≤ y.len ∧ y.len ≤ 1000000)
    (hs : ser = true → oneB x y = true ∧ net = serN x y) :
    Calls Try.prog 57 #[.agg #[.int .i64 x.kind, sx, .int .i64 x.wd, .int .i64 x.len], .agg #[.int .i64 y.kind, sy, .int .i64 y.wd, .int .i64 y.len], .int .i64 net, .bool ser] w
      fun e w' => ∃ pv, e = .returned (.agg #[.int .i64 (mgD x y ser).kind, pv, .int .i64 (mgD x y ser).wd, .int .i64 (mgD x y ser).len]) ∧ OwnR w' w.heap.size w'.heap.size pv (mgD x y ser).pins ∧ Below w.heap.size w w' := by
  cases ser with
  | false =>
    exact mergedPar_any x y net sx sy w h h' (by rcases hx with ⟨_, p, q, e⟩ | ⟨_, g, p, q, e⟩ <;> rw [e] <;> simp) b1 b2 b3 b4
  | true =>
    obtain ⟨h1, h2⟩ := hs rfl
    obtain ⟨m1, m2⟩ := serN_mem h1
    rw [← h2] at m1 m2
    have hn : 0 ≤ net ∧ net ≤ 24 := by
      rcases m1 with e | e <;> rw [e] <;> omega
    by_cases hk : x.kind = 2
    · exact mergedSerR_any x y net sx sy w h h' hx hy hk pb qb hn m1 m2 h2 b1 b2 b3 b4
    · exact mergedSerM_any x y net sx sy w h h' hx hy hk pb qb hn m1 m2 h2 b2 b4
end Go.Proofs.Ytdljbmfmmlcmmaa

/- The reference's l28Merge: parallel devices. -/
namespace Go.Proofs.Ytdljbmfmmlcmmaa
open Go.RowKit
set_option linter.unusedVariables false
set_option linter.unusedSimpArgs false

end Go.Proofs.Ytdljbmfmmlcmmaa

/- The reference's l28Other. -/
namespace Go.Proofs.Ytdljbmfmmlcmmaa
open Go.RowKit
set_option linter.unusedVariables false
set_option linter.unusedSimpArgs false

end Go.Proofs.Ytdljbmfmmlcmmaa

/- The reference's l28Merge: transistors in series. -/
namespace Go.Proofs.Ytdljbmfmmlcmmaa
open Go.RowKit
set_option linter.unusedVariables false
set_option linter.unusedSimpArgs false

theorem OwnR.cellsAt {w : World} {lo hi G n cap : Nat} {zs : List Int} (h : OwnR w lo hi (.slice (some ⟨G, 0, none⟩) n cap) zs) (hz : zs ≠ []) : ∃ cs, Blk w G cs 2 ∧ ICs cs zs := by
  obtain ⟨g, cap', cs, e1, _, _, _, e6, e7⟩ := h.cells hz
  have hg : G = g := by have := congrArg Value.ownBlock e1; simpa [Value.ownBlock] using this
  subst hg
  exact ⟨cs, e6, e7⟩

end Go.Proofs.Ytdljbmfmmlcmmaa

/- The reference's l28Merge: resistors in series. -/
namespace Go.Proofs.Ytdljbmfmmlcmmaa
open Go.RowKit
set_option linter.unusedVariables false
set_option linter.unusedSimpArgs false

end Go.Proofs.Ytdljbmfmmlcmmaa

/- slices.Delete of one device on a slice of devices of the call's own, and the program's remove. -/
namespace Go.Proofs.Ytdljbmfmmlcmmaa
open Go.RowKit
set_option linter.unusedVariables false
set_option linter.unusedSimpArgs false

theorem Blk.setCellsAt (g : Nat) {T : TypeId} : ∀ (vs : List Value) (o : Nat) (w : World) (cs : Array Value), Blk w g cs T → o + vs.length ≤ cs.size → ∃ cs' : Array Value, Blk (w.setCells g o vs) g cs' T ∧ cs'.size = cs.size ∧ (∀ i, i < o → cs'[i]? = cs[i]?) ∧ (∀ j u, vs[j]? = some u → cs'[o + j]? = some u) ∧ Within g (g + 1) w (w.setCells g o vs)
  | [], o, w, cs, h, _ => ⟨cs, h, rfl, fun _ _ => rfl, fun j u hu => by simp at hu, Within.refl _ _ _⟩
  | v :: r, o, w, cs, h, hs => by
    simp only [List.length_cons] at hs
    obtain ⟨cs', h1, h1', h2, h2', h3⟩ := Blk.setCellsAt g r (o + 1) (w.setCell ⟨g, o, none⟩ v) _ (h.set o v) (by simp; omega)
    refine ⟨cs', h1, by rw [h1']; simp, fun i hi => ?_, fun j u hu => ?_, (Within.off v).on h3⟩
    · rw [h2 i (by omega)]
      simp [Array.getElem?_setIfInBounds, show ¬ o = i by omega]
    · cases j with
      | zero =>
        simp at hu
        subst hu
        rw [Nat.add_zero, h2 o (by omega)]
        simp [Array.getElem?_setIfInBounds]
        omega
      | succ j =>
        simp at hu
        have := h2' j u hu
        rw [← this]
        congr 1
        omega

/-- One device is taken out: its neighbours behind it move down. -/
theorem OwnDsX.erased {w w' : World} {lo hi P g cap k : Nat} {cs cs2 : Array Value} {f : Nat → Nat} {xs : List Dv} (hg : (lo ≤ g ∧ g < hi) ∧ g ≠ P) (hcap : xs.length ≤ cap) (hmx : cap ≤ maxLen) (hk : k < xs.length)
    (hel : ∀ (i : Nat) (x : Dv), xs[i]? = some x → (∃ pv, Cs4 cs i (.int .i64 x.kind) pv (.int .i64 x.wd) (.int .i64 x.len) ∧ OwnR w (f i) (f i + 1) pv x.pins) ∧ (lo ≤ f i ∧ f i < hi ∧ f i ≠ g ∧ f i ≠ P))
    (hinj : ∀ i j, i < xs.length → j < xs.length → i ≠ j → f i ≠ f j)
    (hw : Within g (g + 1) w w') (hB : Blk w' g cs2 35)
    (hlow : ∀ i, i < k * 4 → cs2[i]? = cs[i]?) (hup : ∀ i, k * 4 ≤ i → i < (xs.length - 1) * 4 → cs2[i]? = cs[i + 4]?) :
    OwnDsX w' lo hi P (.slice (some ⟨g, 0, none⟩) (xs.length - 1) cap) (xs.eraseIdx k) := by
  have hlen : (xs.eraseIdx k).length = xs.length - 1 := by rw [List.length_eraseIdx_of_lt hk]
  refine .inr ⟨g, cap, cs2, fun i => if i < k then f i else f (i + 1), by rw [hlen], hg, by omega, hmx, hB, fun i y hy => ?_, fun i j hi' hj hne => ?_⟩
  · have hi' : i < xs.length - 1 := by have := (List.getElem?_eq_some_iff.1 hy).1; omega
    rw [List.getElem?_eraseIdx] at hy
    dsimp only
    by_cases e : i < k
    · rw [if_pos e] at hy ⊢
      obtain ⟨⟨pv, ⟨c0, c1, c2, c3⟩, hO⟩, hf⟩ := hel i y hy
      exact ⟨⟨pv, ⟨by rw [hlow _ (by omega)]; exact c0, by rw [hlow _ (by omega)]; exact c1, by rw [hlow _ (by omega)]; exact c2, by rw [hlow _ (by omega)]; exact c3⟩, OwnR.past hw hO (by omega)⟩, hf⟩
    · rw [if_neg e] at hy ⊢
      obtain ⟨⟨pv, ⟨c0, c1, c2, c3⟩, hO⟩, hf⟩ := hel (i + 1) y hy
      refine ⟨⟨pv, ⟨?_, ?_, ?_, ?_⟩, OwnR.past hw hO (by omega)⟩, hf⟩
      · rw [hup _ (by omega) (by omega), ← c0]; congr 1; omega
      · rw [hup _ (by omega) (by omega), ← c1]; congr 1; omega
      · rw [hup _ (by omega) (by omega), ← c2]; congr 1; omega
      · rw [hup _ (by omega) (by omega), ← c3]; congr 1; omega
  · dsimp only
    split <;> split <;> exact hinj _ _ (by omega) (by omega) (by omega)

/-- The cells of the devices behind place k. -/
theorem run_append_rest (w : World) (g k n : Nat) (cs : Array Value) (hB : Blk w g cs 35) (hk : k ≤ n) (hs : (n + 1) * 4 ≤ cs.size)
    (h1 : ∀ i u, cs[i]? = some u → i < (n + 1) * 4 → u.oneCell' = true) :
    ∃ vs : List Value, vs.length = (n - k) * 4 ∧ (∀ j, j < (n - k) * 4 → vs[j]? = cs[(k + 1) * 4 + j]?) ∧
      (loadCellsFrom ⟨g, (k + 1) * 4, none⟩ 0 ((n - k) * 4) #[]).run Try.prog w = .ok vs.toArray w ∧ (storeCells ⟨g, k * 4, none⟩ vs).run Try.prog w = .ok () (w.setCells g (k * 4) vs) := by
  have hvl : ((cs.toList.drop ((k + 1) * 4)).take ((n - k) * 4)).length = (n - k) * 4 := by
    rw [List.length_take, List.length_drop, Array.length_toList]; omega
  have hvg : ∀ j, j < (n - k) * 4 → ((cs.toList.drop ((k + 1) * 4)).take ((n - k) * 4))[j]? = cs[(k + 1) * 4 + j]? := by
    intro j hj
    rw [List.getElem?_take_of_lt hj, List.getElem?_drop, Array.getElem?_toList]
  refine ⟨_, hvl, hvg, ?_, ?_⟩
  · have := run_loadCells_list (P := Try.prog) (w := w) ⟨g, (k + 1) * 4, none⟩ ((cs.toList.drop ((k + 1) * 4)).take ((n - k) * 4)) (fun j u hu => by
      have hj : j < (n - k) * 4 := by have := (List.getElem?_eq_some_iff.1 hu).1; omega
      rw [hvg j hj] at hu
      rw [Addr.add_lit, hB.cell]
      exact hu)
    rw [hvl] at this
    simpa [loadCells] using this
  · have := run_storeCells_cells (P := Try.prog) g (k * 4) ((cs.toList.drop ((k + 1) * 4)).take ((n - k) * 4)) 0 w
      (fun j hj => by rw [hvl] at hj; rw [hB.cell, Array.getElem?_eq_getElem (by omega)]; rfl) (fun j hj => hB.free _)
      (fun u hu => by
        obtain ⟨j, hj, e⟩ := List.getElem_of_mem hu
        have hj' : j < (n - k) * 4 := by omega
        have hu2 : cs[(k + 1) * 4 + j]? = some u := by rw [← hvg j hj', ← e]; exact List.getElem?_eq_getElem hj
        exact h1 _ u hu2 (by omega))
    simpa using this
theorem IntSl.oneD {w : World} {s : Value} {xs : List Int} (h : IntSl w s xs) : s.oneCell' = true := by
  obtain ⟨a, c, rfl⟩ := h.len
  rfl

set_option maxRecDepth 100000 in
set_option maxHeartbeats 2000000 in
theorem deleteX_any (lo hi P : Nat) (sv : Value) (xs : List Dv) (w : World) (h : OwnDsX w lo hi P sv xs) (k : Nat) (hk : k < xs.length) :
    Calls Try.prog 79 #[sv, .int .i64 k, .int .i64 (k + 1)] w fun e w' => ∃ v', e = .returned v' ∧ OwnDsX w' lo hi P v' (xs.eraseIdx k) ∧ WithX lo hi P w w' := by
  rcases h with ⟨a, c, rfl, rfl⟩ | ⟨g, cap, cs, f, rfl, hg, hcap, hmx, hB, hel, hinj⟩
  · simp at hk
  have hsz : xs.length * 4 ≤ cs.size := by
    obtain ⟨m, hm⟩ : ∃ m, xs.length = m + 1 := ⟨xs.length - 1, by omega⟩
    obtain ⟨⟨_, q, _⟩, _⟩ := hel m xs[m] (List.getElem?_eq_getElem (by omega))
    have := (Array.getElem?_eq_some_iff.1 q.2.2.2).1
    omega
  have h1 : ∀ i u, cs[i]? = some u → i < xs.length * 4 → u.oneCell' = true := by
    intro i u hu hi
    obtain ⟨⟨pv, ⟨c0, c1, c2, c3⟩, hO⟩, _⟩ := hel (i / 4) xs[i / 4] (List.getElem?_eq_getElem (by omega))
    obtain ⟨j, hj, e⟩ : ∃ j, j < 4 ∧ i = i / 4 * 4 + j := ⟨i % 4, Nat.mod_lt _ (by omega), by omega⟩
    rw [e] at hu
    match j, hj with
    | 0, _ => rw [Nat.add_zero, c0] at hu; cases hu; rfl
    | 1, _ => rw [c1] at hu; cases hu; exact hO.sl.oneD
    | 2, _ => rw [c2] at hu; cases hu; rfl
    | 3, _ => rw [c3] at hu; cases hu; rfl
  obtain ⟨n, hn⟩ : ∃ n, xs.length = n + 1 := ⟨xs.length - 1, by omega⟩
  rw [hn] at hk hsz h1
  obtain ⟨vs, hvl, hvg, hld, hst⟩ := run_append_rest w.drew g k n cs hB.drew (by omega) hsz h1
  obtain ⟨cs1, hB1, hz1, hlow1, hup1, hW1⟩ := Blk.setCellsAt g vs (k * 4) w.drew cs hB.drew (by omega)
  have hvs : k = n → vs = [] := fun e => List.eq_nil_of_length_eq_zero (by rw [hvl, e]; omega)
  obtain ⟨wo, hwo⟩ : ∃ wo, wo = w.drew.setCells g (k * 4) vs := ⟨_, rfl⟩
  have hB1' : Blk wo g cs1 35 := by rw [hwo]; exact hB1
  have hBl := hB.lt
  have hcap' : n + 1 ≤ cap := by omega
  have HE := Lib.hid (fun w' cs2 (h1 : Within g (g + 1) w w') (h2 : Blk w' g cs2 35) h3 h4 => OwnDsX.erased (k := k) hg hcap hmx (by omega) hel hinj h1 h2 h3 h4)
  obtain ⟨vs2, hvl2, hcl⟩ : ∃ vs : List Value, vs.length = 1 * 4 ∧ ∀ ty, (Builtin.clear_ #[24] ty #[.slice (some ⟨g, n * 4, none⟩) 1 (cap - n)]).run Try.prog wo = .ok (.tuple #[]) (wo.setCells g (n * 4) vs) := by
    obtain ⟨vs, h1, h2⟩ := run_clear_dev wo 0 g (n * 4) 1 (cap - n) (by omega) (fun j hj => by rw [hB1'.cell]; rw [Array.getElem?_eq_getElem (by omega)]; rfl) (fun j => hB1'.free j)
    exact ⟨vs, h1, fun ty => h2⟩
  obtain ⟨cs2, hB2, hlow2, hW2⟩ := Blk.setCells g vs2 (n * 4) wo cs1 hB1'
  have hW1o : Within g (g + 1) w wo := by rw [hwo]; exact ((Within.refl _ _ w).drewN 1).on hW1
  have HF : Hid (OwnDsX (wo.setCells g (n * 4) vs2) lo hi P (.slice (some ⟨g, 0, none⟩) n cap) (xs.eraseIdx k) ∧ WithX lo hi P w (wo.setCells g (n * 4) vs2)) := Lib.hid (by
    have := HE.out (wo.setCells g (n * 4) vs2) cs2 (hW1o.on hW2) hB2 (fun i hi' => by rw [hlow2 i (by omega), hlow1 i hi']) (fun i h1 h2 => by
      rw [hn] at h2
      have hj : i - k * 4 < (n - k) * 4 := by omega
      obtain ⟨u, hu⟩ : ∃ u, vs[i - k * 4]? = some u := ⟨vs[i - k * 4], List.getElem?_eq_getElem (by omega)⟩
      have e1 := hup1 _ u hu
      rw [hvg _ hj] at hu
      rw [hlow2 i (by omega)]
      rw [show k * 4 + (i - k * 4) = i by omega] at e1
      rw [e1, ← hu]
      congr 1
      omega)
    rw [hn] at this
    exact ⟨this, (hW1o.on hW2).subX hg.1.1 (by omega) (by omega)⟩)
  rw [hn]
  unfold maxLen at hmx
  have i1 : (0 : Int) ≤ (k : Int) := by omega
  have i2 : (k : Int) + 1 ≤ (n : Int) + 1 := by omega
  have i3 : (k : Int) ≤ (k : Int) + 1 := by omega
  have i4 : (n : Int) + 1 ≤ (cap : Int) := by omega
  have i5 : ((k : Int) == (k : Int) + 1) = false := by simp; omega
  have i7 : (0 : Int) ≤ (k : Int) + 1 := by omega
  have i6 : (k : Int) ≤ (cap : Int) := by omega
  have i8 : k + (n - k) ≤ cap := by omega
  have i9 : k + (n - k) = n := by omega
  clear h1 hel hinj hvg hvl hup1 hlow1 hB1 hsz hW1 hW2 hB2 hlow2 hB1' HE hW1o hvl2
  go_enter Try.func79, Try.ntmps79
  go_wp2_with fail
  by_cases hcap1 : cap = k + 1
  · obtain rfl : k = n := by omega
    have hvs' := hvs rfl
    subst hvs'
    clear hvs hld hst
    rw [show w.drew.setCells g (k * 4) [] = w.drew from rfl] at hwo
    subst hwo
    have hcl' := hcl 0
    rw [hcap1, show k + 1 - k = 1 by omega] at hcl'
    clear hcl
    go_region
    go_wp2
    go_ret
    have := HF.out
    rw [hcap1] at this
    exact ⟨_, rfl, this⟩
  · clear hvs
    subst hwo
    go_region
    go_wp2
    go_ret
    exact ⟨_, rfl, HF.out⟩

set_option maxRecDepth 100000 in
theorem removeX_any (lo hi P : Nat) (sv : Value) (xs : List Dv) (w : World) (h : OwnDsX w lo hi P sv xs) (k : Nat) (hk : k < xs.length) (hn : xs.length ≤ 1000) :
    Calls Try.prog 58 #[sv, .int .i64 k] w fun e w' => ∃ v', e = .returned v' ∧ OwnDsX w' lo hi P v' (xs.eraseIdx k) ∧ WithX lo hi P w w' := by
  have HD := Lib.hid (deleteX_any lo hi P sv xs w h k hk)
  have w1 : IntKind.i64.wrap ((k : Int) + 1) = (k : Int) + 1 := by simp [IntKind.wrap, IntKind.bits, IntKind.signed]; omega
  clear h hk hn
  go_enter Try.func58, Try.ntmps58
  go_wp2_with (go_at_call 79; refine HD.out.mono ?_; rintro e w2 ⟨v2, rfl, hO, hW⟩)
  go_ret
  exact ⟨_, rfl, hO, hW⟩
end Go.Proofs.Ytdljbmfmmlcmmaa

/- MergePair: what both sides answer, plain; the reference's l28Merge: one contract; a device put into a slice of one's own. -/
namespace Go.Proofs.Ytdljbmfmmlcmmaa
open Go.RowKit
set_option linter.unusedVariables false
set_option linter.unusedSimpArgs false

/-- What becomes of two devices: their state and limit. -/
def mgE (x : Nl) (a b : Dv) : Int :=
  if serB x a b = false ∧ parB a b = false then 6 else if (mgD a b (serB x a b)).wd > 1000000 ∨ (mgD a b (serB x a b)).len > 1000000 then 3 else 0
/-- The code. -/
def mgC (x : Nl) (i j : Int) : Int :=
  if nlB x = false then 1 else if 0 ≤ i ∧ i < j ∧ j < x.ds.length then
    match x.ds[i.toNat]?, x.ds[j.toNat]? with
    | some a, some b => mgE x a b
    | _, _ => 2
  else 2
/-- The netlist. -/
def mgR (x : Nl) (i j : Int) : Nl :=
  if mgC x i j = 0 then
    match x.ds[i.toNat]?, x.ds[j.toNat]? with
    | some a, some b => ⟨x.nets, (x.ds.set i.toNat (mgD a b (serB x a b))).eraseIdx j.toNat, x.ps⟩
    | _, _ => ⟨0, [], []⟩
  else ⟨0, [], []⟩
theorem mgR_no {x : Nl} {i j : Int} (h : mgC x i j ≠ 0) : mgR x i j = ⟨0, [], []⟩ := by unfold mgR; rw [if_neg h]
theorem mgC_valid {x : Nl} {i j : Int} (h : nlB x = false) : mgC x i j = 1 := by unfold mgC; rw [if_pos h]
theorem mgC_range {x : Nl} {i j : Int} (h : nlB x = true) (h' : ¬ (0 ≤ i ∧ i < j ∧ j < x.ds.length)) : mgC x i j = 2 := by unfold mgC; rw [if_neg (by rw [h]; simp), if_neg h']
theorem mgC_in {x : Nl} {i j : Nat} {a b : Dv} (h : nlB x = true) (h' : i < j) (ha : x.ds[i]? = some a) (hb : x.ds[j]? = some b) : mgC x i j = mgE x a b := by
  have hj := (List.getElem?_eq_some_iff.1 hb).1
  unfold mgC
  rw [if_neg (by rw [h]; simp), if_pos ⟨by omega, by omega, by omega⟩]
  simp only [Int.toNat_natCast, ha, hb]
theorem mgR_in {x : Nl} {i j : Nat} {a b : Dv} (h : nlB x = true) (h' : i < j) (ha : x.ds[i]? = some a) (hb : x.ds[j]? = some b) (hc : mgE x a b = 0) : mgR x i j = ⟨x.nets, (x.ds.set i (mgD a b (serB x a b))).eraseIdx j, x.ps⟩ := by
  unfold mgR
  rw [if_pos (by rw [mgC_in h h' ha hb]; exact hc)]
  simp only [Int.toNat_natCast, ha, hb]

theorem mgD_pins {x y : Dv} {ser : Bool} (hx : Shp x) : (mgD x y ser).pins ≠ [] ∧ (mgD x y ser).pins.length ≤ 3 := by
  show mgPins x y ser ≠ [] ∧ (mgPins x y ser).length ≤ 3
  unfold mgPins
  cases ser with
  | true =>
    rw [if_pos rfl]
    by_cases hk : x.kind = 2 <;> simp [hk]
  | false =>
    rw [if_neg (by simp)]
    rcases hx with ⟨_, p, q, e⟩ | ⟨_, g, p, q, e⟩ <;> rw [e] <;> simp
theorem dvB_nums {nets : Int} {x : Dv} (h : dvB nets x = true) : (1 ≤ x.wd ∧ x.wd ≤ 1000000) ∧ (1 ≤ x.len ∧ x.len ≤ 1000000) := by
  obtain ⟨_, _, h3, h4, _⟩ := dvB_all h
  exact ⟨inB_iff.1 h3, inB_iff.1 h4⟩

/-- A device whose pins lie below the slice's own memory is put into it. -/
theorem OwnDs.setDev {w : World} {lo hi P lo2 hi2 k : Nat} {sv : Value} {ds : List Dv} (h : OwnDs w lo hi sv ds) (hk : k < ds.length) (d : Dv) (pv : Value) (hR : OwnR w lo2 hi2 pv d.pins) (hd : d.pins ≠ []) (hlt : hi2 ≤ lo) (hP : P < lo ∨ hi ≤ P) (hP2 : P < lo2 ∨ hi2 ≤ P) :
    ∃ g cap cs, sv = .slice (some ⟨g, 0, none⟩) ds.length cap ∧ Blk w g cs 35 ∧ (lo ≤ g ∧ g < hi) ∧ k * 4 + 3 < cs.size ∧
      ∀ w', Within g (g + 1) w w' → Blk w' g (set4 cs k (.int .i64 d.kind) pv (.int .i64 d.wd) (.int .i64 d.len)) 35 → OwnDsX w' lo2 hi P sv (ds.set k d) := by
  rcases h with ⟨_, _, _, rfl⟩ | ⟨g, cap, cs, f, h1, h2, h3, h4, h5, h6, h7⟩
  · simp at hk
  obtain ⟨⟨pv0, ⟨c0, c1, c2, c3⟩, hR0⟩, hf⟩ := h6 k ds[k] (List.getElem?_eq_getElem hk)
  have hsz := (Array.getElem?_eq_some_iff.1 c3).1
  obtain ⟨gp, capp, csp, rfl, hgp, hcp, hmp, hBp, hIC⟩ := hR.cells hd
  refine ⟨g, cap, cs, h1, h5, h2, hsz, fun w' hW hB => ?_⟩
  refine .inr ⟨g, cap, _, fun i => if i = k then gp else f i, by rw [List.length_set]; exact h1, ⟨by omega, by omega⟩, by rw [List.length_set]; exact h3, h4, hB, fun i x hx => ?_, fun i j hi' hj hne => ?_⟩
  · have hil : i < ds.length := by have := (List.getElem?_eq_some_iff.1 hx).1; simpa using this
    rw [List.getElem?_set] at hx
    dsimp only
    by_cases e : i = k
    · subst e
      simp [hk] at hx
      subst hx
      rw [if_pos rfl]
      refine ⟨⟨.slice (some ⟨gp, 0, none⟩) d.pins.length capp, ⟨?_, ?_, ?_, ?_⟩, .inr ⟨gp, capp, csp, rfl, Nat.le_refl _, Nat.lt_succ_self _, hcp, hmp, hW.blk hBp (by omega), hIC⟩⟩, by omega⟩
      all_goals (simp only [set4, Array.getElem?_setIfInBounds, Array.size_setIfInBounds]; split <;> (try split) <;> (try split) <;> (try split) <;> simp_all <;> omega)
    · rw [if_neg (fun h => e h.symm)] at hx
      rw [if_neg e]
      obtain ⟨⟨pv1, ⟨d0, d1, d2, d3⟩, hR1⟩, hf1⟩ := h6 i x hx
      refine ⟨⟨pv1, ⟨?_, ?_, ?_, ?_⟩, OwnR.past hW hR1 (by omega)⟩, by omega⟩
      · rw [← d0]; simp only [set4, Array.getElem?_setIfInBounds, Array.size_setIfInBounds]; repeat rw [if_neg (by omega)]
      · rw [← d1]; simp only [set4, Array.getElem?_setIfInBounds, Array.size_setIfInBounds]; repeat rw [if_neg (by omega)]
      · rw [← d2]; simp only [set4, Array.getElem?_setIfInBounds, Array.size_setIfInBounds]; repeat rw [if_neg (by omega)]
      · rw [← d3]; simp only [set4, Array.getElem?_setIfInBounds, Array.size_setIfInBounds]; repeat rw [if_neg (by omega)]
  · rw [List.length_set] at hi' hj
    have a1 := h6 i ds[i] (List.getElem?_eq_getElem hi')
    have a2 := h6 j ds[j] (List.getElem?_eq_getElem hj)
    dsimp only
    split <;> split
    · omega
    · omega
    · omega
    · exact h7 i j hi' hj hne
end Go.Proofs.Ytdljbmfmmlcmmaa

/- MergePair: the devices of the merged netlist, one by one (plain). -/
namespace Go.Proofs.Ytdljbmfmmlcmmaa
open Go.RowKit
set_option linter.unusedVariables false
set_option linter.unusedSimpArgs false

/-- The devices of the merged netlist after so many devices. -/
def mgTo (ds : List Dv) (i j : Nat) (d : Dv) (k : Nat) : List Dv := ((ds.take k).set i d).eraseIdx j
theorem mgTo_zero (ds : List Dv) (i j : Nat) (d : Dv) : mgTo ds i j d 0 = [] := by simp [mgTo]
theorem mgTo_len (ds : List Dv) (i j : Nat) (d : Dv) (k : Nat) : (mgTo ds i j d k).length ≤ k := by
  unfold mgTo
  have h1 := List.length_eraseIdx_le ((ds.take k).set i d) j
  rw [List.length_set, List.length_take] at h1
  omega
theorem mgTo_all (ds : List Dv) (i j : Nat) (d : Dv) : mgTo ds i j d ds.length = (ds.set i d).eraseIdx j := by simp [mgTo]
theorem mgTo_i (ds : List Dv) (i j : Nat) (d : Dv) (hij : i < j) (hi : i < ds.length) : mgTo ds i j d (i + 1) = mgTo ds i j d i ++ [d] := by
  have h1 : (ds.take i).length = i := by rw [List.length_take]; omega
  unfold mgTo
  rw [take_snoc_of ds i ds[i] (List.getElem?_eq_getElem hi), List.set_append, if_neg (by omega), h1, Nat.sub_self]
  have h2 : (ds.take i).set i d = ds.take i := List.set_eq_of_length_le (by omega)
  rw [h2, List.eraseIdx_of_length_le (l := ds.take i) (by omega), List.eraseIdx_of_length_le (by simp; omega)]
  rfl
theorem mgTo_j (ds : List Dv) (i j : Nat) (d : Dv) (hij : i < j) (hj : j < ds.length) : mgTo ds i j d (j + 1) = mgTo ds i j d j := by
  have h1 : (ds.take j).length = j := by rw [List.length_take]; omega
  unfold mgTo
  rw [take_snoc_of ds j ds[j] (List.getElem?_eq_getElem hj), List.set_append, if_pos (by omega)]
  rw [List.eraseIdx_append_of_length_le (by simp <;> omega), List.eraseIdx_of_length_le (l := (ds.take j).set i d) (by simp <;> omega)]
  simp [h1]
theorem mgTo_k (ds : List Dv) (i j : Nat) (d : Dv) (k : Nat) (x : Dv) (hx : ds[k]? = some x) (h1 : k ≠ i) (h2 : k ≠ j) : mgTo ds i j d (k + 1) = mgTo ds i j d k ++ [x] := by
  have hk := (List.getElem?_eq_some_iff.1 hx).1
  have hl : (ds.take k).length = k := by rw [List.length_take]; omega
  unfold mgTo
  rw [take_snoc_of ds k x hx]
  have e1 : (ds.take k ++ [x]).set i d = (ds.take k).set i d ++ [x] := by
    rw [List.set_append]
    by_cases h : i < (ds.take k).length
    · rw [if_pos h]
    · rw [if_neg h, hl, List.set_eq_of_length_le (l := ds.take k) (by omega), List.set_eq_of_length_le (l := [x]) (by simp; omega)]
  rw [e1]
  by_cases h : j < k
  · rw [List.eraseIdx_append_of_lt_length (by simp; omega)]
  · rw [List.eraseIdx_of_length_le (l := (ds.take k).set i d) (by simp; omega), List.eraseIdx_of_length_le (by simp; omega)]
end Go.Proofs.Ytdljbmfmmlcmmaa
