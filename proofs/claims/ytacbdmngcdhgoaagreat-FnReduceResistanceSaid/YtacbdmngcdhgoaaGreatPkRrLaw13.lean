/- Contracts and plain laws, part 13, for the statement's proof. -/
import Derived.Test.YtacbdmngcdhgoaaGreatPkRrLaw12
import Derived.BigRegion
import Derived.Deep.DeepCutAuto
import Derived.Deep.RegionHeld3
import Derived.Deep.AppendSrc
import Derived.Deep.RegionHeldLaw
namespace Go.Proofs.YtacbdmngcdhgoaaGreat
open Go.RowKit
set_option linter.unusedVariables false
set_option linter.unusedSimpArgs false
def otherN (p q net : Int) : Int := if p = net then q else p
def mgPins (x y : Dv) (ser : Bool) : List Int :=
  if ser = true then (if x.kind = 2 then [] else [gateOf x.pins]) ++ [otherN (curP x.pins) (curQ x.pins) (serN x y), otherN (curP y.pins) (curQ y.pins) (serN x y)] else x.pins
def mgW (x y : Dv) (ser : Bool) : Int :=
  if x.kind = 2 then (if ser = true then redN (x.wd * y.len + y.wd * x.len) (x.len * y.len) else redN (x.wd * y.wd) (x.wd * y.len + y.wd * x.len)) else if ser = true then x.wd else x.wd + y.wd
def mgL (x y : Dv) (ser : Bool) : Int :=
  if x.kind = 2 then (if ser = true then redD (x.wd * y.len + y.wd * x.len) (x.len * y.len) else redD (x.wd * y.wd) (x.wd * y.len + y.wd * x.len)) else if ser = true then x.len + y.len else x.len
def mgD (x y : Dv) (ser : Bool) : Dv := ⟨x.kind, mgPins x y ser, mgW x y ser, mgL x y ser⟩
theorem serN_mem {x y : Dv} (h : oneB x y = true) : (serN x y = curP x.pins ∨ serN x y = curQ x.pins) ∧ (serN x y = curP y.pins ∨ serN x y = curQ y.pins) := by
  have h1 : comC (curP x.pins) (curQ x.pins) (curP y.pins) (curQ y.pins) = 1 := by simpa [oneB] using h
  unfold serN
  generalize curP x.pins = p at *
  generalize curQ x.pins = q at *
  generalize curP y.pins = r at *
  generalize curQ y.pins = s at *
  unfold comC at h1
  unfold comN
  by_cases a : q = r ∨ q = s
  · rw [if_pos a]
    exact ⟨.inr rfl, a⟩
  · by_cases b : p = r ∨ p = s
    · rw [if_neg a, if_pos b]
      exact ⟨.inl rfl, b⟩
    · rw [if_neg a, if_neg b] at h1
      omega
theorem otherN_sum {p q net : Int} (h : net = p ∨ net = q) : p + q - net = otherN p q net := by
  unfold otherN
  rcases h with rfl | rfl
  · rw [if_pos rfl]; omega
  · by_cases e : p = net
    · rw [if_pos e]; omega
    · rw [if_neg e]; omega
theorem serB_oneB {n : Nl} {x y : Dv} (h : serB n x y = true) : serPre x y = true ∧ oneB x y = true := by
  simp only [serB, Bool.and_eq_true] at h
  exact ⟨h.1, h.2.1⟩
theorem serPre_kindE {x y : Dv} (h : serPre x y = true) : x.kind = y.kind ∧ parB x y = false := by
  simp only [serPre, Bool.and_eq_true, decide_eq_true_eq, Bool.not_eq_true'] at h
  exact ⟨h.1, h.2.1⟩
/- The program's merged: parallel devices. -/
theorem OwnI.toR {w : World} {lo : Nat} {sv : Value} {zs : List Int} (h : OwnI w lo sv zs) : OwnR w lo w.heap.size sv zs := by
  rcases h with h | ⟨g, cap, cs, e1, e2, e3, e4, e5, e6⟩
  · exact .inl h
  · exact .inr ⟨g, cap, cs, e1, e2, e5.lt, e3, e4, e5, e6⟩
theorem mul_bd {a b : Int} (ha : 1 ≤ a) (ha' : a ≤ 1000000) (hb : 1 ≤ b) (hb' : b ≤ 1000000) : 1 ≤ a * b ∧ a * b ≤ 1000000000000 := by
  have h1 := Int.mul_le_mul ha' hb' (by omega) (by omega)
  have h2 := Int.mul_le_mul ha hb (by omega) (by omega)
  omega
set_option maxRecDepth 100000 in
set_option maxHeartbeats 2000000 in
theorem mergedPar_any (x y : Dv) (net : Int) (sx sy : Value) (w : World) (h : IntSl w sx x.pins) (h' : IntSl w sy y.pins) (hn : x.pins.length ≤ 3)
    (b1 : 1 ≤ x.wd ∧ x.wd ≤ 1000000) (b2 : 1 ≤ x.len ∧ x.len ≤ 1000000) (b3 : 1 ≤ y.wd ∧ y.wd ≤ 1000000) (b4 : 1 ≤ y.len ∧ y.len ≤ 1000000) :
    Calls Tryz.prog 57 #[.agg #[.int .i64 x.kind, sx, .int .i64 x.wd, .int .i64 x.len], .agg #[.int .i64 y.kind, sy, .int .i64 y.wd, .int .i64 y.len], .int .i64 net, .bool false] w
      fun e w' => ∃ pv, e = .returned (.agg #[.int .i64 x.kind, pv, .int .i64 (mgW x y false), .int .i64 (mgL x y false)]) ∧ OwnR w' w.heap.size w'.heap.size pv (mgPins x y false) ∧ Below w.heap.size w w' := by
  have hp : mgPins x y false = x.pins := by simp [mgPins]
  rw [hp]
  have HCP := Lib.hid (fun w h => copyDevice_any x.kind x.wd x.len sx x.pins w h (by omega))
  have H := Lib.hid h
  have p1 := mul_bd b1.1 b1.2 b4.1 b4.2
  have p2 := mul_bd b3.1 b3.2 b2.1 b2.2
  have p3 := mul_bd b2.1 b2.2 b4.1 b4.2
  have p4 := mul_bd b1.1 b1.2 b3.1 b3.2
  obtain ⟨a, c, rfl⟩ := h.len
  obtain ⟨a', c', rfl⟩ := h'.len
  obtain ⟨kind, pins, wd, len⟩ := x
  obtain ⟨kind', pins', wd', len'⟩ := y
  dsimp only at HCP H p1 p2 p3 p4 b1 b2 b3 b4 hn ⊢
  by_cases hk : kind = 2
  · have e1 : (kind == 2) = true := by simpa using hk
    have hW : mgW ⟨kind, pins, wd, len⟩ ⟨kind', pins', wd', len'⟩ false = redN (wd * wd') (wd * len' + wd' * len) := by simp [mgW, hk]
    have hL : mgL ⟨kind, pins, wd, len⟩ ⟨kind', pins', wd', len'⟩ false = redD (wd * wd') (wd * len' + wd' * len) := by simp [mgL, hk]
    rw [hW, hL]
    have HLO1 := Lib.hid (fun w => lowest_any (wd * len' + wd' * len) (len * len') w (by omega) (by omega) (by omega) (by omega) (by omega))
    have HLO2 := Lib.hid (fun w => lowest_any (wd * wd') (wd * len' + wd' * len) w (by omega) (by omega) (by omega) (by omega) (by omega))
    generalize redN (wd * wd') (wd * len' + wd' * len) = R1 at *
    generalize redD (wd * wd') (wd * len' + wd' * len) = R2 at *
    have w1' : IntKind.i64.wrap (wd * len') = wd * len' := by simp [IntKind.wrap, IntKind.bits, IntKind.signed]; omega
    have w2' : IntKind.i64.wrap (wd' * len) = wd' * len := by simp [IntKind.wrap, IntKind.bits, IntKind.signed]; omega
    have w3' : IntKind.i64.wrap (len * len') = len * len' := by simp [IntKind.wrap, IntKind.bits, IntKind.signed]; omega
    have w4' : IntKind.i64.wrap (wd * wd') = wd * wd' := by simp [IntKind.wrap, IntKind.bits, IntKind.signed]; omega
    have w5' : IntKind.i64.wrap (wd * len' + wd' * len) = wd * len' + wd' * len := by simp [IntKind.wrap, IntKind.bits, IntKind.signed]; omega
    clear h h' hk hW hL hp
    go_enter Tryz.func57, Tryz.ntmps57
    go_wp2_with fail
    refine (HCP.out _ (H.out.by blwT)).mono ?_
    rintro e w1 ⟨pv, rfl, hO, hb1⟩
    have kA : Blk w1 w.heap.size #[.int .i64 kind, .slice a pins.length c, .int .i64 wd, .int .i64 len] 46 := blkT
    have kB : Blk w1 (w.heap.size + 1) #[.int .i64 kind', .slice a' pins'.length c', .int .i64 wd', .int .i64 len'] 46 := blkT
    have kR : Blk w1 (w.heap.size + 1 + 1) #[.int .i64 0, .slice none 0 0, .int .i64 0, .int .i64 0] 46 := blkT
    have hW1 : Below w.heap.size w w1 := blwT
    have HO : Hid (OwnR w1 (w.heap.size + 1 + 1 + 1) w1.heap.size pv pins) := Lib.hid (by have h0 := hO.toR; simp only [World.size_alloc] at h0; exact h0)
    obtain ⟨ap, cp, rfl⟩ := hO.len
    have qA := kA.cell
    have lA := kA.lt
    have qB := kB.cell
    have lB := kB.lt
    clear hO hb1
    go_wp2_with fail
    refine (HLO1.out _).mono ?_
    rintro e w2 ⟨rfl, hb2⟩
    have kA2 : Blk w2 w.heap.size #[.int .i64 kind, .slice a pins.length c, .int .i64 wd, .int .i64 len] 46 := blkT
    have kB2 : Blk w2 (w.heap.size + 1) #[.int .i64 kind', .slice a' pins'.length c', .int .i64 wd', .int .i64 len'] 46 := blkT
    have kR2 : Blk w2 (w.heap.size + 1 + 1) #[.int .i64 0, .slice none 0 0, .int .i64 0, .int .i64 0] 46 := blkT
    have kD2 : Blk w2 w1.heap.size #[.int .i64 kind, .slice ap pins.length cp, .int .i64 wd, .int .i64 len] 46 := blkT
    have hW2 : Below w.heap.size w w2 := blwT
    have HO2 := Lib.hid (OwnR.by hb2 (OwnR.by ((Below.refl _ w1).alloc (Nat.le_refl _) _) HO.out))
    have hs1 := hW1.size
    have lR := kR.lt
    have qA2 := kA2.cell
    have lA2 := kA2.lt
    have qB2 := kB2.cell
    have lB2 := kB2.lt
    clear hb2 qA lA qB lB kA kB
    go_wp2_with fail
    refine (HLO2.out _).mono ?_
    rintro e w3 ⟨rfl, hb3⟩
    obtain ⟨D, hD⟩ : ∃ D, w1.heap.size = D := ⟨_, rfl⟩
    obtain ⟨V, hV⟩ : ∃ V, w2.heap.size = V := ⟨_, rfl⟩
    have kR3 : Blk w3 (w.heap.size + 1 + 1) #[.int .i64 0, .slice none 0 0, .int .i64 0, .int .i64 0] 46 := blkT
    have kD3 : Blk w3 w1.heap.size #[.int .i64 kind, .slice ap pins.length cp, .int .i64 wd, .int .i64 len] 46 := blkT
    have kV3 : Blk w3 w2.heap.size #[.int .i64 (redN (wd * len' + wd' * len) (len * len')), .int .i64 (redD (wd * len' + wd' * len) (len * len'))] 31 := blkT
    have hW3 : Below w.heap.size w w3 := blwT
    have HO3 := Lib.hid (OwnR.by hb3 (OwnR.by ((Below.refl _ w2).alloc (Nat.le_refl _) _) HO2.out))
    have lDV : w1.heap.size < w2.heap.size := kD2.lt
    rw [hD] at kD3 lDV HO3
    rw [hV] at kV3 lDV
    rw [hD] at lR
    rw [hD, hV]
    have qV := kV3.cell
    have fV := kV3.free
    have lV := kV3.lt
    have qD := kD3.cell
    have fD := kD3.free
    have lD := kD3.lt
    have qR := kR3.cell
    have fR := kR3.free
    have lR3 := kR3.lt
    have nDV : ¬ D = V := by omega
    have nVD : ¬ V = D := by omega
    clear hb3 qA2 lA2 qB2 lB2 kA2 kB2 kR2 kD2 hD hV kR
    go_wp2
    obtain ⟨w4, hw4⟩ : ∃ z, z = (w3.setCell ⟨V, 0, none⟩ (.int .i64 R1)).setCell ⟨V, 1, none⟩ (.int .i64 R2) := ⟨_, rfl⟩
    have hVw : w.heap.size + 1 + 1 < V := by omega
    have kV4 : Blk w4 V #[.int .i64 R1, .int .i64 R2] 31 := by rw [hw4]; exact kV3.set2
    have kD4 : Blk w4 D #[.int .i64 kind, .slice ap pins.length cp, .int .i64 wd, .int .i64 len] 46 := by rw [hw4]; exact (kD3.apart V _ _ (by omega)).apart V _ _ (by omega)
    have kR4 : Blk w4 (w.heap.size + 1 + 1) #[.int .i64 0, .slice none 0 0, .int .i64 0, .int .i64 0] 46 := by rw [hw4]; exact (kR3.apart V _ _ (by omega)).apart V _ _ (by omega)
    have hW4 : Below w.heap.size w w4 := by rw [hw4]; exact (hW3.setCell (by simp; omega) _).setCell (by simp; omega) _
    have HO4 : Hid (OwnR w4 (w.heap.size + 1 + 1 + 1) D (.slice ap pins.length cp) pins) := Lib.hid (by rw [hw4]; exact OwnR.past (Within.off _) (OwnR.past (Within.off _) HO3.out (by omega)) (by omega))
    rw [← hw4]
    have qV4 := kV4.cell
    have qD4 := kD4.cell
    have fD4 := kD4.free
    have lD4 := kD4.lt
    have qR4 := kR4.cell
    have fR4 := kR4.free
    have lR4 := kR4.lt
    clear hw4 qV fV lV qD fD lD qR fR lR3 kV3 kD3 kR3
    go_region
    all_goals go_wp2
    all_goals
      refine bodyPost_ret (v := .agg #[.int .i64 kind, .slice ap pins.length cp, .int .i64 R1, .int .i64 R2]) (by simp [results, Tryz.results57, go_sem, *]) rfl ⟨_, rfl, ?_, ?_⟩
      · have q1 := OwnR.past (Within.off (g := D) (o := 2) (.int .i64 R1)) HO4.out (by omega)
        have q2 := OwnR.past (Within.off (g := D) (o := 3) (.int .i64 R2)) q1 (by omega)
        have q3 := OwnR.past (Within.off (g := w.heap.size + 1 + 1) (o := 0) (.int .i64 kind)) q2 (by omega)
        have q4 := OwnR.past (Within.off (g := w.heap.size + 1 + 1) (o := 1) (.slice ap pins.length cp)) q3 (by omega)
        have q5 := OwnR.past (Within.off (g := w.heap.size + 1 + 1) (o := 2) (.int .i64 R1)) q4 (by omega)
        have q6 := OwnR.past (Within.off (g := w.heap.size + 1 + 1) (o := 3) (.int .i64 R2)) q5 (by omega)
        exact OwnR.wide' (OwnR.by (Below.refl _ _).drew q6) (by omega) (by simp; omega)
      · ((repeat (first | (with_reducible exact Below.refl _ _) | (with_reducible refine below_drewN ?_ _) | (with_reducible refine Below.drew ?_) | (with_reducible refine below_al ?_ _) | (with_reducible refine below_on (by assumption) ?_) | ((with_reducible refine Below.setCell ?_ ?_ _); rotate_left; focus (first | omega | (simp; done) | (simp; omega))) | (with_reducible assumption))); done)
  · have e1 : (kind == 2) = false := by simpa using hk
    have hW : mgW ⟨kind, pins, wd, len⟩ ⟨kind', pins', wd', len'⟩ false = wd + wd' := by simp [mgW, hk]
    have hL : mgL ⟨kind, pins, wd, len⟩ ⟨kind', pins', wd', len'⟩ false = len := by simp [mgL, hk]
    rw [hW, hL]
    have w5' : IntKind.i64.wrap (wd + wd') = wd + wd' := by simp [IntKind.wrap, IntKind.bits, IntKind.signed]; omega
    clear h h' hk hW hL hp p1 p2 p3 p4
    go_enter Tryz.func57, Tryz.ntmps57
    go_wp2_with fail
    refine (HCP.out _ (H.out.by blwT)).mono ?_
    rintro e w1 ⟨pv, rfl, hO, hb1⟩
    have kA : Blk w1 w.heap.size #[.int .i64 kind, .slice a pins.length c, .int .i64 wd, .int .i64 len] 46 := blkT
    have kB : Blk w1 (w.heap.size + 1) #[.int .i64 kind', .slice a' pins'.length c', .int .i64 wd', .int .i64 len'] 46 := blkT
    have kR : Blk w1 (w.heap.size + 1 + 1) #[.int .i64 0, .slice none 0 0, .int .i64 0, .int .i64 0] 46 := blkT
    have hW1 : Below w.heap.size w w1 := blwT
    have HO : Hid (OwnR w1 (w.heap.size + 1 + 1 + 1) w1.heap.size pv pins) := Lib.hid (by have h0 := hO.toR; simp only [World.size_alloc] at h0; exact h0)
    obtain ⟨ap, cp, rfl⟩ := hO.len
    have qA := kA.cell
    have lA := kA.lt
    have qB := kB.cell
    have lB := kB.lt
    have qR := kR.cell
    have fR := kR.free
    have lR := kR.lt
    clear hO hb1
    go_wp2
    refine bodyPost_ret (v := .agg #[.int .i64 kind, .slice ap pins.length cp, .int .i64 (wd + wd'), .int .i64 len]) (by simp [results, Tryz.results57, go_sem, *]) rfl ⟨_, rfl, ?_, blwT⟩
    have q3 := OwnR.past (Within.off (g := w.heap.size + 1 + 1) (o := 0) (.int .i64 kind)) HO.out (by omega)
    have q4 := OwnR.past (Within.off (g := w.heap.size + 1 + 1) (o := 1) (.slice ap pins.length cp)) q3 (by omega)
    have q5 := OwnR.past (Within.off (g := w.heap.size + 1 + 1) (o := 2) (.int .i64 (wd + wd'))) q4 (by omega)
    have q6 := OwnR.past (Within.off (g := w.heap.size + 1 + 1) (o := 3) (.int .i64 len)) q5 (by omega)
    exact OwnR.wide' (OwnR.by ((Below.refl _ _).alloc (Nat.le_refl _) _) q6) (by omega) (by simp; try omega)
/- The program's merged: devices in series. -/
theorem OwnR.setAt {w : World} {lo hi G n cap : Nat} {zs : List Int} (h : OwnR w lo hi (.slice (some ⟨G, 0, none⟩) n cap) zs) (i : Nat) (y : Int) : OwnR (w.setCell ⟨G, i, none⟩ (.int .i64 y)) lo hi (.slice (some ⟨G, 0, none⟩) n cap) (zs.set i y) := by
  rcases h with ⟨_, _, e, hz⟩ | ⟨g, cap', cs, e1, e2, e3, e4, e5, e6, e7⟩
  · subst hz
    cases e
    exact .inl ⟨_, _, rfl, rfl⟩
  · have hg : G = g := by have := congrArg Value.ownBlock e1; simpa [Value.ownBlock] using this
    subst hg
    refine .inr ⟨G, cap', cs.setIfInBounds i (.int .i64 y), by rw [List.length_set]; exact e1, e2, e3, by rw [List.length_set]; exact e4, e5, Blk.set e6 i _, fun j x hx => ?_⟩
    rw [List.getElem?_set] at hx
    rw [Array.getElem?_setIfInBounds]
    by_cases e : i = j
    · subst e
      rw [if_pos rfl] at hx ⊢
      split at hx
      · rename_i hlt
        have hz : zs[i]? = some zs[i] := List.getElem?_eq_getElem hlt
        have := (Array.getElem?_eq_some_iff.1 (e7 i _ hz)).1
        rw [if_pos this]
        simp at hx
        rw [hx]
      · cases hx
    · rw [if_neg e] at hx ⊢
      exact e7 j x hx
set_option maxRecDepth 100000 in
set_option maxHeartbeats 2000000 in
theorem mergedSerM_any (x y : Dv) (net : Int) (sx sy : Value) (w : World) (h : IntSl w sx x.pins) (h' : IntSl w sy y.pins) (hx : Shp x) (hy : Shp y) (hk : x.kind ≠ 2)
    (pb : (0 ≤ curP x.pins ∧ curP x.pins ≤ 24) ∧ (0 ≤ curQ x.pins ∧ curQ x.pins ≤ 24)) (qb : (0 ≤ curP y.pins ∧ curP y.pins ≤ 24) ∧ (0 ≤ curQ y.pins ∧ curQ y.pins ≤ 24)) (hn0 : 0 ≤ net ∧ net ≤ 24)
    (n1 : net = curP x.pins ∨ net = curQ x.pins) (n2 : net = curP y.pins ∨ net = curQ y.pins) (hnet : net = serN x y)
    (b2 : 1 ≤ x.len ∧ x.len ≤ 1000000) (b4 : 1 ≤ y.len ∧ y.len ≤ 1000000) :
    Calls Tryz.prog 57 #[.agg #[.int .i64 x.kind, sx, .int .i64 x.wd, .int .i64 x.len], .agg #[.int .i64 y.kind, sy, .int .i64 y.wd, .int .i64 y.len], .int .i64 net, .bool true] w
      fun e w' => ∃ pv, e = .returned (.agg #[.int .i64 x.kind, pv, .int .i64 (mgW x y true), .int .i64 (mgL x y true)]) ∧ OwnR w' w.heap.size w'.heap.size pv (mgPins x y true) ∧ Below w.heap.size w w' := by
  obtain ⟨g, p, q, hp⟩ : ∃ g p q, x.pins = [g, p, q] := by
    rcases hx with ⟨k2, _⟩ | ⟨_, g, p, q, e⟩
    · exact absurd k2 hk
    · exact ⟨g, p, q, e⟩
  have hP : curP x.pins = p := by rw [hp]; rfl
  have hQ : curQ x.pins = q := by rw [hp]; rfl
  have hmp : mgPins x y true = [g, otherN p q net, otherN (curP y.pins) (curQ y.pins) net] := by
    unfold mgPins
    rw [if_pos rfl, if_neg hk, hP, hQ, hnet, hp]
    rfl
  have o1 := otherN_sum n1
  have o2 := otherN_sum n2
  rw [hP, hQ] at o1 pb
  rw [hmp]
  have hW : mgW x y true = x.wd := by simp [mgW, hk]
  have hL : mgL x y true = x.len + y.len := by simp [mgL, hk]
  rw [hW, hL]
  have HCP := Lib.hid (fun w h => copyDevice_any x.kind x.wd x.len sx x.pins w h (by rw [hp]; simp))
  have HC1 := Lib.hid (fun w h => currentPins_any x sx w h hx)
  have HC2 := Lib.hid (fun w h => currentPins_any y sy w h hy)
  rw [hP, hQ] at HC1
  have H := Lib.hid h
  have H' := Lib.hid h'
  obtain ⟨r, hr⟩ : ∃ r, curP y.pins = r := ⟨_, rfl⟩
  obtain ⟨s, hs⟩ : ∃ s, curQ y.pins = s := ⟨_, rfl⟩
  rw [hr, hs] at HC2 o2 qb ⊢
  rw [← o1, ← o2]
  rw [hp] at HCP H
  obtain ⟨a, c, rfl⟩ := h.len
  obtain ⟨a', c', rfl⟩ := h'.len
  rw [hp]
  have hl3 : x.pins.length = 3 := by rw [hp]; rfl
  obtain ⟨kind, pins, wd, len⟩ := x
  obtain ⟨kind', pins', wd', len'⟩ := y
  dsimp only at HCP HC1 HC2 H H' b2 b4 hk hl3 hp ⊢
  subst hp
  have e1 : (kind == 2) = false := by simpa using hk
  have w5' : IntKind.i64.wrap (len + len') = len + len' := by simp [IntKind.wrap, IntKind.bits, IntKind.signed]; omega
  clear h h' hx hy hk hP hQ hmp hW hL hr hs n1 n2 hnet o1 o2 hl3
  go_enter Tryz.func57, Tryz.ntmps57
  go_wp2_with fail
  refine (HCP.out _ (H.out.by blwT)).mono ?_
  rintro e w1 ⟨pv, rfl, hO, hb1⟩
  have kA : Blk w1 w.heap.size #[.int .i64 kind, .slice a 3 c, .int .i64 wd, .int .i64 len] 46 := blkT
  have kB : Blk w1 (w.heap.size + 1) #[.int .i64 kind', .slice a' pins'.length c', .int .i64 wd', .int .i64 len'] 46 := blkT
  have kR : Blk w1 (w.heap.size + 1 + 1) #[.int .i64 0, .slice none 0 0, .int .i64 0, .int .i64 0] 46 := blkT
  have hW1 : Below w.heap.size w w1 := blwT
  have hOR : OwnR w1 (w.heap.size + 1 + 1 + 1) w1.heap.size pv [g, p, q] := by have h0 := hO.toR; simp only [World.size_alloc] at h0; exact h0
  obtain ⟨G, cap, cs, rfl, hG, hcap, hmx, hBk, hcs⟩ := OwnR.cells hOR (by simp)
  have HO := Lib.hid hOR
  have qA := kA.cell
  have lA := kA.lt
  have qB := kB.cell
  have lB := kB.lt
  clear hO hb1 hOR
  go_wp2_with fail
  refine (HC1.out _ (H.out.by blwT)).mono ?_
  rintro e w2 ⟨rfl, hb2⟩
  obtain ⟨D, hD⟩ : ∃ D, w1.heap.size = D := ⟨_, rfl⟩
  have kB2 : Blk w2 (w.heap.size + 1) #[.int .i64 kind', .slice a' pins'.length c', .int .i64 wd', .int .i64 len'] 46 := blkT
  have kR2 : Blk w2 (w.heap.size + 1 + 1) #[.int .i64 0, .slice none 0 0, .int .i64 0, .int .i64 0] 46 := blkT
  have kA2 : Blk w2 w.heap.size #[.int .i64 kind, .slice a 3 c, .int .i64 wd, .int .i64 len] 46 := blkT
  have kD2 : Blk w2 w1.heap.size #[.int .i64 kind, .slice (some ⟨G, 0, none⟩) 3 cap, .int .i64 wd, .int .i64 len] 46 := blkT
  have kG2 : Blk w2 G cs 2 := blkT
  have HO2 := Lib.hid (OwnR.by hb2 (OwnR.by ((Below.refl _ w1).alloc (Nat.le_refl _) _) HO.out))
  have hW2 : Below w.heap.size w w2 := blwT
  have lR := kR.lt
  rw [hD] at kD2 hG HO2 lR
  rw [hD]
  have qB2 := kB2.cell
  have lB2 := kB2.lt
  clear hb2 qA lA qB lB kA kB kR hD
  go_wp2_with fail
  refine (HC2.out _ (H'.out.by blwT)).mono ?_
  rintro e w3 ⟨rfl, hb3⟩
  have kB3 := Blk.by hb3 kB2
  have kR3 := Blk.by hb3 kR2
  have kA3 := Blk.by hb3 kA2
  have kD3 := Blk.by hb3 kD2
  have kG3 := Blk.by hb3 kG2
  have HO3 := Lib.hid (OwnR.by hb3 HO2.out)
  have hW3 := below_on hb3 hW2
  have qD3 := kD3.cell
  have lD3 := kD3.lt
  clear hb3 qB2 lB2 kB2 kR2 kA2 kD2 kG2
  go_upto_region 6 with fail
  have fG := kG3.free
  have lG := kG3.lt
  have s1 : (cs[1]?).isSome = true := by
    have := hcs 1 p (by simp)
    rw [this]; rfl
  have s2 : (cs[2]?).isSome = true := by
    have := hcs 2 q (by simp)
    rw [this]; rfl
  have c1' : w3.cell? ⟨G, 1, none⟩ = some (.int .i64 p) := (kG3.cell 1).trans (hcs 1 p (by simp))
  have c2' : w3.cell? ⟨G, 2, none⟩ = some (.int .i64 q) := (kG3.cell 2).trans (hcs 2 q (by simp))
  go_region
  obtain ⟨w4, hw4⟩ : ∃ z, z = ((w3.setCell ⟨G, 1, none⟩ (.int .i64 (p + q - net))).setCell ⟨G, 2, none⟩ (.int .i64 (r + s - net))).drew := ⟨_, rfl⟩
  have HO4 : Hid (OwnR w4 (w.heap.size + 1 + 1 + 1) D (.slice (some ⟨G, 0, none⟩) 3 cap) [g, p + q - net, r + s - net]) := Lib.hid (by
    rw [hw4]
    exact OwnR.by (Below.refl _ _).drew ((HO3.out.setAt 1 (p + q - net)).setAt 2 (r + s - net)))
  have kB4 : Blk w4 (w.heap.size + 1) #[.int .i64 kind', .slice a' pins'.length c', .int .i64 wd', .int .i64 len'] 46 := by rw [hw4]; exact ((kB3.apart G _ _ (by omega)).apart G _ _ (by omega)).drew
  have kA4 : Blk w4 w.heap.size #[.int .i64 kind, .slice a 3 c, .int .i64 wd, .int .i64 len] 46 := by rw [hw4]; exact ((kA3.apart G _ _ (by omega)).apart G _ _ (by omega)).drew
  have kR4 : Blk w4 (w.heap.size + 1 + 1) #[.int .i64 0, .slice none 0 0, .int .i64 0, .int .i64 0] 46 := by rw [hw4]; exact ((kR3.apart G _ _ (by omega)).apart G _ _ (by omega)).drew
  have kD4 : Blk w4 D #[.int .i64 kind, .slice (some ⟨G, 0, none⟩) 3 cap, .int .i64 wd, .int .i64 len] 46 := by rw [hw4]; exact ((kD3.apart G _ _ (by omega)).apart G _ _ (by omega)).drew
  have hW4 : Below w.heap.size w w4 := by rw [hw4]; exact ((hW3.setCell (by simp; omega) _).setCell (by simp; omega) _).drew
  rw [← hw4]
  have qA4 := kA4.cell
  have lA4 := kA4.lt
  have qB4 := kB4.cell
  have lB4 := kB4.lt
  have qD4 := kD4.cell
  have fD4 := kD4.free
  have lD4 := kD4.lt
  have qR4 := kR4.cell
  have fR4 := kR4.free
  have lR4 := kR4.lt
  clear hw4 qD3 lD3 fG lG s1 s2 c1' c2' kA3 kB3 kR3 kD3 kG3
  go_wp2
  refine bodyPost_ret (v := .agg #[.int .i64 kind, .slice (some ⟨G, 0, none⟩) 3 cap, .int .i64 wd, .int .i64 (len + len')]) (by simp [results, Tryz.results57, go_sem, *]) rfl ⟨_, rfl, ?_, blwT⟩
  have q2 := OwnR.past (Within.off (g := D) (o := 3) (.int .i64 (len + len'))) HO4.out (by omega)
  have q3 := OwnR.past (Within.off (g := w.heap.size + 1 + 1) (o := 0) (.int .i64 kind)) q2 (by omega)
  have q4 := OwnR.past (Within.off (g := w.heap.size + 1 + 1) (o := 1) (.slice (some ⟨G, 0, none⟩) 3 cap)) q3 (by omega)
  have q5 := OwnR.past (Within.off (g := w.heap.size + 1 + 1) (o := 2) (.int .i64 wd)) q4 (by omega)
  have q6 := OwnR.past (Within.off (g := w.heap.size + 1 + 1) (o := 3) (.int .i64 (len + len'))) q5 (by omega)
  exact OwnR.wide' q6 (by omega) (by simp; omega)
/- The program's merged: resistors in series. -/
set_option maxRecDepth 100000 in
set_option maxHeartbeats 2000000 in
theorem mergedSerR_any (x y : Dv) (net : Int) (sx sy : Value) (w : World) (h : IntSl w sx x.pins) (h' : IntSl w sy y.pins) (hx : Shp x) (hy : Shp y) (hk : x.kind = 2)
    (pb : (0 ≤ curP x.pins ∧ curP x.pins ≤ 24) ∧ (0 ≤ curQ x.pins ∧ curQ x.pins ≤ 24)) (qb : (0 ≤ curP y.pins ∧ curP y.pins ≤ 24) ∧ (0 ≤ curQ y.pins ∧ curQ y.pins ≤ 24)) (hn0 : 0 ≤ net ∧ net ≤ 24)
    (n1 : net = curP x.pins ∨ net = curQ x.pins) (n2 : net = curP y.pins ∨ net = curQ y.pins) (hnet : net = serN x y)
    (b1 : 1 ≤ x.wd ∧ x.wd ≤ 1000000) (b2 : 1 ≤ x.len ∧ x.len ≤ 1000000) (b3 : 1 ≤ y.wd ∧ y.wd ≤ 1000000) (b4 : 1 ≤ y.len ∧ y.len ≤ 1000000) :
    Calls Tryz.prog 57 #[.agg #[.int .i64 x.kind, sx, .int .i64 x.wd, .int .i64 x.len], .agg #[.int .i64 y.kind, sy, .int .i64 y.wd, .int .i64 y.len], .int .i64 net, .bool true] w
      fun e w' => ∃ pv, e = .returned (.agg #[.int .i64 x.kind, pv, .int .i64 (mgW x y true), .int .i64 (mgL x y true)]) ∧ OwnR w' w.heap.size w'.heap.size pv (mgPins x y true) ∧ Below w.heap.size w w' := by
  obtain ⟨p, q, hp⟩ : ∃ p q, x.pins = [p, q] := by
    rcases hx with ⟨_, p, q, e⟩ | ⟨k2, _, _, _, _⟩
    · exact ⟨p, q, e⟩
    · omega
  have hP : curP x.pins = p := by rw [hp]; rfl
  have hQ : curQ x.pins = q := by rw [hp]; rfl
  have hmp : mgPins x y true = [otherN p q net, otherN (curP y.pins) (curQ y.pins) net] := by
    unfold mgPins
    rw [if_pos rfl, if_pos hk, hP, hQ, hnet]
    rfl
  have o1 := otherN_sum n1
  have o2 := otherN_sum n2
  rw [hP, hQ] at o1 pb
  rw [hmp]
  have hW : mgW x y true = redN (x.wd * y.len + y.wd * x.len) (x.len * y.len) := by simp [mgW, hk]
  have hL : mgL x y true = redD (x.wd * y.len + y.wd * x.len) (x.len * y.len) := by simp [mgL, hk]
  rw [hW, hL]
  have HCP := Lib.hid (fun w h => copyDevice_any x.kind x.wd x.len sx x.pins w h (by rw [hp]; simp))
  have HC1 := Lib.hid (fun w h => currentPins_any x sx w h hx)
  have HC2 := Lib.hid (fun w h => currentPins_any y sy w h hy)
  rw [hP, hQ] at HC1
  have p1 := mul_bd b1.1 b1.2 b4.1 b4.2
  have p2 := mul_bd b3.1 b3.2 b2.1 b2.2
  have p3 := mul_bd b2.1 b2.2 b4.1 b4.2
  have H := Lib.hid h
  have H' := Lib.hid h'
  obtain ⟨r, hr⟩ : ∃ r, curP y.pins = r := ⟨_, rfl⟩
  obtain ⟨s, hs⟩ : ∃ s, curQ y.pins = s := ⟨_, rfl⟩
  rw [hr, hs] at HC2 o2 qb ⊢
  rw [← o1, ← o2]
  rw [hp] at HCP H
  obtain ⟨a, c, rfl⟩ := h.len
  obtain ⟨a', c', rfl⟩ := h'.len
  rw [hp]
  have hl3 : x.pins.length = 2 := by rw [hp]; rfl
  obtain ⟨kind, pins, wd, len⟩ := x
  obtain ⟨kind', pins', wd', len'⟩ := y
  dsimp only at HCP HC1 HC2 H H' b1 b2 b3 b4 p1 p2 p3 hk hl3 hp ⊢
  subst hp
  have e1 : (kind == 2) = true := by simpa using hk
  have HLO1 := Lib.hid (fun w => lowest_any (wd * len' + wd' * len) (len * len') w (by omega) (by omega) (by omega) (by omega) (by omega))
  generalize redN (wd * len' + wd' * len) (len * len') = R1 at *
  generalize redD (wd * len' + wd' * len) (len * len') = R2 at *
  have w1' : IntKind.i64.wrap (wd * len') = wd * len' := by simp [IntKind.wrap, IntKind.bits, IntKind.signed]; omega
  have w2' : IntKind.i64.wrap (wd' * len) = wd' * len := by simp [IntKind.wrap, IntKind.bits, IntKind.signed]; omega
  have w3' : IntKind.i64.wrap (len * len') = len * len' := by simp [IntKind.wrap, IntKind.bits, IntKind.signed]; omega
  have w5' : IntKind.i64.wrap (wd * len' + wd' * len) = wd * len' + wd' * len := by simp [IntKind.wrap, IntKind.bits, IntKind.signed]; omega
  clear h h' hx hy hk hP hQ hmp hW hL hr hs n1 n2 hnet o1 o2 hl3
  go_enter Tryz.func57, Tryz.ntmps57
  go_wp2_with fail
  refine (HCP.out _ (H.out.by blwT)).mono ?_
  rintro e w1 ⟨pv, rfl, hO, hb1⟩
  have kA : Blk w1 w.heap.size #[.int .i64 kind, .slice a 2 c, .int .i64 wd, .int .i64 len] 46 := blkT
  have kB : Blk w1 (w.heap.size + 1) #[.int .i64 kind', .slice a' pins'.length c', .int .i64 wd', .int .i64 len'] 46 := blkT
  have kR : Blk w1 (w.heap.size + 1 + 1) #[.int .i64 0, .slice none 0 0, .int .i64 0, .int .i64 0] 46 := blkT
  have hW1 : Below w.heap.size w w1 := blwT
  have hOR : OwnR w1 (w.heap.size + 1 + 1 + 1) w1.heap.size pv [p, q] := by have h0 := hO.toR; simp only [World.size_alloc] at h0; exact h0
  obtain ⟨G, cap, cs, rfl, hG, hcap, hmx, hBk, hcs⟩ := OwnR.cells hOR (by simp)
  have HO := Lib.hid hOR
  have qA := kA.cell
  have lA := kA.lt
  have qB := kB.cell
  have lB := kB.lt
  clear hO hb1 hOR
  go_wp2_with fail
  refine (HC1.out _ (H.out.by blwT)).mono ?_
  rintro e w2 ⟨rfl, hb2⟩
  obtain ⟨D, hD⟩ : ∃ D, w1.heap.size = D := ⟨_, rfl⟩
  have kB2 : Blk w2 (w.heap.size + 1) #[.int .i64 kind', .slice a' pins'.length c', .int .i64 wd', .int .i64 len'] 46 := blkT
  have kR2 : Blk w2 (w.heap.size + 1 + 1) #[.int .i64 0, .slice none 0 0, .int .i64 0, .int .i64 0] 46 := blkT
  have kA2 : Blk w2 w.heap.size #[.int .i64 kind, .slice a 2 c, .int .i64 wd, .int .i64 len] 46 := blkT
  have kD2 : Blk w2 w1.heap.size #[.int .i64 kind, .slice (some ⟨G, 0, none⟩) 2 cap, .int .i64 wd, .int .i64 len] 46 := blkT
  have kG2 : Blk w2 G cs 2 := blkT
  have HO2 := Lib.hid (OwnR.by hb2 (OwnR.by ((Below.refl _ w1).alloc (Nat.le_refl _) _) HO.out))
  have hW2 : Below w.heap.size w w2 := blwT
  have lR := kR.lt
  rw [hD] at kD2 hG HO2 lR
  rw [hD]
  have qB2 := kB2.cell
  have lB2 := kB2.lt
  clear hb2 qA lA qB lB kA kB kR hD
  go_wp2_with fail
  refine (HC2.out _ (H'.out.by blwT)).mono ?_
  rintro e w3 ⟨rfl, hb3⟩
  have kB3 := Blk.by hb3 kB2
  have kR3 := Blk.by hb3 kR2
  have kA3 := Blk.by hb3 kA2
  have kD3 := Blk.by hb3 kD2
  have kG3 := Blk.by hb3 kG2
  have HO3 := Lib.hid (OwnR.by hb3 HO2.out)
  have hW3 := below_on hb3 hW2
  have qD3 := kD3.cell
  have lD3 := kD3.lt
  clear hb3 qB2 lB2 kB2 kR2 kA2 kD2 kG2
  go_upto_region 6 with fail
  have fG := kG3.free
  have lG := kG3.lt
  have s1 : (cs[0]?).isSome = true := by
    have := hcs 0 p (by simp)
    rw [this]; rfl
  have s2 : (cs[1]?).isSome = true := by
    have := hcs 1 q (by simp)
    rw [this]; rfl
  have c1' : w3.cell? ⟨G, 0, none⟩ = some (.int .i64 p) := (kG3.cell 0).trans (hcs 0 p (by simp))
  have c2' : w3.cell? ⟨G, 1, none⟩ = some (.int .i64 q) := (kG3.cell 1).trans (hcs 1 q (by simp))
  go_region
  obtain ⟨w4, hw4⟩ : ∃ z, z = ((w3.setCell ⟨G, 0, none⟩ (.int .i64 (p + q - net))).setCell ⟨G, 1, none⟩ (.int .i64 (r + s - net))).drew := ⟨_, rfl⟩
  have HO4 : Hid (OwnR w4 (w.heap.size + 1 + 1 + 1) D (.slice (some ⟨G, 0, none⟩) 2 cap) [p + q - net, r + s - net]) := Lib.hid (by
    rw [hw4]
    exact OwnR.by (Below.refl _ _).drew ((HO3.out.setAt 0 (p + q - net)).setAt 1 (r + s - net)))
  have kB4 : Blk w4 (w.heap.size + 1) #[.int .i64 kind', .slice a' pins'.length c', .int .i64 wd', .int .i64 len'] 46 := by rw [hw4]; exact ((kB3.apart G _ _ (by omega)).apart G _ _ (by omega)).drew
  have kA4 : Blk w4 w.heap.size #[.int .i64 kind, .slice a 2 c, .int .i64 wd, .int .i64 len] 46 := by rw [hw4]; exact ((kA3.apart G _ _ (by omega)).apart G _ _ (by omega)).drew
  have kR4 : Blk w4 (w.heap.size + 1 + 1) #[.int .i64 0, .slice none 0 0, .int .i64 0, .int .i64 0] 46 := by rw [hw4]; exact ((kR3.apart G _ _ (by omega)).apart G _ _ (by omega)).drew
  have kD4 : Blk w4 D #[.int .i64 kind, .slice (some ⟨G, 0, none⟩) 2 cap, .int .i64 wd, .int .i64 len] 46 := by rw [hw4]; exact ((kD3.apart G _ _ (by omega)).apart G _ _ (by omega)).drew
  have hW4 : Below w.heap.size w w4 := by rw [hw4]; exact ((hW3.setCell (by simp; omega) _).setCell (by simp; omega) _).drew
  rw [← hw4]
  have qA4 := kA4.cell
  have lA4 := kA4.lt
  have qB4 := kB4.cell
  have lB4 := kB4.lt
  have qD4 := kD4.cell
  have fD4 := kD4.free
  have lD4 := kD4.lt
  have qR4 := kR4.cell
  have fR4 := kR4.free
  have lR4 := kR4.lt
  clear hw4 qD3 lD3 fG lG s1 s2 c1' c2' kA3 kB3 kR3 kD3 kG3
  go_wp2_with fail
  refine (HLO1.out _).mono ?_
  rintro e w5 ⟨rfl, hb5⟩
  have kR5 := Blk.by hb5 kR4
  have kD5 := Blk.by hb5 kD4
  have hW5 := below_on hb5 hW4
  have HO5 := Lib.hid (OwnR.by hb5 HO4.out)
  obtain ⟨V, hV⟩ : ∃ V, w5.heap.size = V := ⟨_, rfl⟩
  have lDV : D < V := by rw [← hV]; exact kD5.lt
  obtain ⟨w6, hw6⟩ : ∃ z, z = w5.alloc (.cells #[.int .i64 R1, .int .i64 R2] 31) := ⟨_, rfl⟩
  have hal : Below w5.heap.size w5 w6 := by rw [hw6]; exact (Below.refl _ w5).alloc (Nat.le_refl _) _
  have kV6 : Blk w6 V #[.int .i64 R1, .int .i64 R2] 31 := by rw [hw6]; exact Blk.new _ hV.symm
  have kR6 := Blk.by hal kR5
  have kD6 := Blk.by hal kD5
  have hW6 := below_on hal hW5
  have HO6 := Lib.hid (OwnR.by hal HO5.out)
  clear hb5 qA4 lA4 qB4 lB4 qD4 fD4 lD4 qR4 fR4 lR4 kR4 kD4 kA4 kB4 hal
  go_upto_region 12 with fail
  (try rw [← hw6])
  (try rw [hV])
  clear hw6 hV
  have qV := kV6.cell
  have qD := kD6.cell
  have fD := kD6.free
  have lD := kD6.lt
  have qR := kR6.cell
  have fR := kR6.free
  have lR6 := kR6.lt
  have nDV : ¬ D = V := by omega
  have nVD : ¬ V = D := by omega
  go_region
  all_goals go_wp2
  all_goals
    refine bodyPost_ret (v := .agg #[.int .i64 kind, .slice (some ⟨G, 0, none⟩) 2 cap, .int .i64 R1, .int .i64 R2]) (by simp [results, Tryz.results57, go_sem, *]) rfl ⟨_, rfl, ?_, ?_⟩
    · have q1 := OwnR.past (Within.off (g := D) (o := 2) (.int .i64 R1)) HO6.out (by omega)
      have q2 := OwnR.past (Within.off (g := D) (o := 3) (.int .i64 R2)) q1 (by omega)
      have q3 := OwnR.past (Within.off (g := w.heap.size + 1 + 1) (o := 0) (.int .i64 kind)) q2 (by omega)
      have q4 := OwnR.past (Within.off (g := w.heap.size + 1 + 1) (o := 1) (.slice (some ⟨G, 0, none⟩) 2 cap)) q3 (by omega)
      have q5 := OwnR.past (Within.off (g := w.heap.size + 1 + 1) (o := 2) (.int .i64 R1)) q4 (by omega)
      have q6 := OwnR.past (Within.off (g := w.heap.size + 1 + 1) (o := 3) (.int .i64 R2)) q5 (by omega)
      exact OwnR.wide' (OwnR.by (Below.refl _ _).drew q6) (by omega) (by simp; omega)
    · ((repeat (first | (with_reducible exact Below.refl _ _) | (with_reducible refine below_drewN ?_ _) | (with_reducible refine Below.drew ?_) | (with_reducible refine below_al ?_ _) | (with_reducible refine below_on (by assumption) ?_) | ((with_reducible refine Below.setCell ?_ ?_ _); rotate_left; focus (first | omega | (simp; done) | (simp; omega))) | (with_reducible assumption))); done)
/- The program's merged: one contract. -/
theorem merged_any (x y : Dv) (ser : Bool) (net : Int) (sx sy : Value) (w : World) (h : IntSl w sx x.pins) (h' : IntSl w sy y.pins) (hx : Shp x) (hy : Shp y)
    (pb : (0 ≤ curP x.pins ∧ curP x.pins ≤ 24) ∧ (0 ≤ curQ x.pins ∧ curQ x.pins ≤ 24)) (qb : (0 ≤ curP y.pins ∧ curP y.pins ≤ 24) ∧ (0 ≤ curQ y.pins ∧ curQ y.pins ≤ 24))
    (b1 : 1 ≤ x.wd ∧ x.wd ≤ 1000000) (b2 : 1 ≤ x.len ∧ x.len ≤ 1000000) (b3 : 1 ≤ y.wd ∧ y.wd ≤ 1000000) (b4 : 1 ≤ y.len ∧ y.len ≤ 1000000)
    (hs : ser = true → oneB x y = true ∧ net = serN x y) :
    Calls Tryz.prog 57 #[.agg #[.int .i64 x.kind, sx, .int .i64 x.wd, .int .i64 x.len], .agg #[.int .i64 y.kind, sy, .int .i64 y.wd, .int .i64 y.len], .int .i64 net, .bool ser] w
      fun e w' => ∃ pv, e = .returned (.agg #[.int .i64 (mgD x y ser).kind, pv, .int .i64 (mgD x y ser).wd, .int .i64 (mgD x y ser).len]) ∧ OwnR w' w.heap.size w'.heap.size pv (mgD x y ser).pins ∧ Below w.heap.size w w' := by
  cases ser with
  | false =>
    exact mergedPar_any x y net sx sy w h h' (by rcases hx with ⟨_, p, q, e⟩ | ⟨_, g, p, q, e⟩ <;> rw [e] <;> simp) b1 b2 b3 b4
  | true =>
    obtain ⟨h1, h2⟩ := hs rfl
    obtain ⟨m1, m2⟩ := serN_mem h1
    rw [← h2] at m1 m2
    have hn : 0 ≤ net ∧ net ≤ 24 := by
      rcases m1 with e | e <;> rw [e] <;> omega
    by_cases hk : x.kind = 2
    · exact mergedSerR_any x y net sx sy w h h' hx hy hk pb qb hn m1 m2 h2 b1 b2 b3 b4
    · exact mergedSerM_any x y net sx sy w h h' hx hy hk pb qb hn m1 m2 h2 b2 b4
/- The reference's l28Merge: parallel devices. -/
/- The reference's l28Other. -/
/- The reference's l28Merge: transistors in series. -/
/- The reference's l28Merge: resistors in series. -/
/- slices.Delete of one device on a slice of devices of the call's own, and the program's remove. -/
theorem Blk.setCellsAt (g : Nat) {T : TypeId} : ∀ (vs : List Value) (o : Nat) (w : World) (cs : Array Value), Blk w g cs T → o + vs.length ≤ cs.size → ∃ cs' : Array Value, Blk (w.setCells g o vs) g cs' T ∧ cs'.size = cs.size ∧ (∀ i, i < o → cs'[i]? = cs[i]?) ∧ (∀ j u, vs[j]? = some u → cs'[o + j]? = some u) ∧ Within g (g + 1) w (w.setCells g o vs)
  | [], o, w, cs, h, _ => ⟨cs, h, rfl, fun _ _ => rfl, fun j u hu => by simp at hu, Within.refl _ _ _⟩
  | v :: r, o, w, cs, h, hs => by
    simp only [List.length_cons] at hs
    obtain ⟨cs', h1, h1', h2, h2', h3⟩ := Blk.setCellsAt g r (o + 1) (w.setCell ⟨g, o, none⟩ v) _ (h.set o v) (by simp; omega)
    refine ⟨cs', h1, by rw [h1']; simp, fun i hi => ?_, fun j u hu => ?_, (Within.off v).on h3⟩
    · rw [h2 i (by omega)]
      simp [Array.getElem?_setIfInBounds, show ¬ o = i by omega]
    · cases j with
      | zero =>
        simp at hu
        subst hu
        rw [Nat.add_zero, h2 o (by omega)]
        simp [Array.getElem?_setIfInBounds]
        omega
      | succ j =>
        simp at hu
        have := h2' j u hu
        rw [← this]
        congr 1
        omega
theorem OwnDsX.erased {w w' : World} {lo hi P g cap k : Nat} {cs cs2 : Array Value} {f : Nat → Nat} {xs : List Dv} (hg : (lo ≤ g ∧ g < hi) ∧ g ≠ P) (hcap : xs.length ≤ cap) (hmx : cap ≤ maxLen) (hk : k < xs.length)
    (hel : ∀ (i : Nat) (x : Dv), xs[i]? = some x → (∃ pv, Cs4 cs i (.int .i64 x.kind) pv (.int .i64 x.wd) (.int .i64 x.len) ∧ OwnR w (f i) (f i + 1) pv x.pins) ∧ (lo ≤ f i ∧ f i < hi ∧ f i ≠ g ∧ f i ≠ P))
    (hinj : ∀ i j, i < xs.length → j < xs.length → i ≠ j → f i ≠ f j)
    (hw : Within g (g + 1) w w') (hB : Blk w' g cs2 46)
    (hlow : ∀ i, i < k * 4 → cs2[i]? = cs[i]?) (hup : ∀ i, k * 4 ≤ i → i < (xs.length - 1) * 4 → cs2[i]? = cs[i + 4]?) :
    OwnDsX w' lo hi P (.slice (some ⟨g, 0, none⟩) (xs.length - 1) cap) (xs.eraseIdx k) := by
  have hlen : (xs.eraseIdx k).length = xs.length - 1 := by rw [List.length_eraseIdx_of_lt hk]
  refine .inr ⟨g, cap, cs2, fun i => if i < k then f i else f (i + 1), by rw [hlen], hg, by omega, hmx, hB, fun i y hy => ?_, fun i j hi' hj hne => ?_⟩
  · have hi' : i < xs.length - 1 := by have := (List.getElem?_eq_some_iff.1 hy).1; omega
    rw [List.getElem?_eraseIdx] at hy
    dsimp only
    by_cases e : i < k
    · rw [if_pos e] at hy ⊢
      obtain ⟨⟨pv, ⟨c0, c1, c2, c3⟩, hO⟩, hf⟩ := hel i y hy
      exact ⟨⟨pv, ⟨by rw [hlow _ (by omega)]; exact c0, by rw [hlow _ (by omega)]; exact c1, by rw [hlow _ (by omega)]; exact c2, by rw [hlow _ (by omega)]; exact c3⟩, OwnR.past hw hO (by omega)⟩, hf⟩
    · rw [if_neg e] at hy ⊢
      obtain ⟨⟨pv, ⟨c0, c1, c2, c3⟩, hO⟩, hf⟩ := hel (i + 1) y hy
      refine ⟨⟨pv, ⟨?_, ?_, ?_, ?_⟩, OwnR.past hw hO (by omega)⟩, hf⟩
      · rw [hup _ (by omega) (by omega), ← c0]; congr 1; omega
      · rw [hup _ (by omega) (by omega), ← c1]; congr 1; omega
      · rw [hup _ (by omega) (by omega), ← c2]; congr 1; omega
      · rw [hup _ (by omega) (by omega), ← c3]; congr 1; omega
  · dsimp only
    split <;> split <;> exact hinj _ _ (by omega) (by omega) (by omega)
theorem run_append_rest (w : World) (g k n : Nat) (cs : Array Value) (hB : Blk w g cs 46) (hk : k ≤ n) (hs : (n + 1) * 4 ≤ cs.size)
    (h1 : ∀ i u, cs[i]? = some u → i < (n + 1) * 4 → u.oneCell' = true) :
    ∃ vs : List Value, vs.length = (n - k) * 4 ∧ (∀ j, j < (n - k) * 4 → vs[j]? = cs[(k + 1) * 4 + j]?) ∧
      (loadCellsFrom ⟨g, (k + 1) * 4, none⟩ 0 ((n - k) * 4) #[]).run Tryz.prog w = .ok vs.toArray w ∧ (storeCells ⟨g, k * 4, none⟩ vs).run Tryz.prog w = .ok () (w.setCells g (k * 4) vs) := by
  have hvl : ((cs.toList.drop ((k + 1) * 4)).take ((n - k) * 4)).length = (n - k) * 4 := by
    rw [List.length_take, List.length_drop, Array.length_toList]; omega
  have hvg : ∀ j, j < (n - k) * 4 → ((cs.toList.drop ((k + 1) * 4)).take ((n - k) * 4))[j]? = cs[(k + 1) * 4 + j]? := by
    intro j hj
    rw [List.getElem?_take_of_lt hj, List.getElem?_drop, Array.getElem?_toList]
  refine ⟨_, hvl, hvg, ?_, ?_⟩
  · have := run_loadCells_list (P := Tryz.prog) (w := w) ⟨g, (k + 1) * 4, none⟩ ((cs.toList.drop ((k + 1) * 4)).take ((n - k) * 4)) (fun j u hu => by
      have hj : j < (n - k) * 4 := by have := (List.getElem?_eq_some_iff.1 hu).1; omega
      rw [hvg j hj] at hu
      rw [Addr.add_lit, hB.cell]
      exact hu)
    rw [hvl] at this
    simpa [loadCells] using this
  · have := run_storeCells_cells (P := Tryz.prog) g (k * 4) ((cs.toList.drop ((k + 1) * 4)).take ((n - k) * 4)) 0 w
      (fun j hj => by rw [hvl] at hj; rw [hB.cell, Array.getElem?_eq_getElem (by omega)]; rfl) (fun j hj => hB.free _)
      (fun u hu => by
        obtain ⟨j, hj, e⟩ := List.getElem_of_mem hu
        have hj' : j < (n - k) * 4 := by omega
        have hu2 : cs[(k + 1) * 4 + j]? = some u := by rw [← hvg j hj', ← e]; exact List.getElem?_eq_getElem hj
        exact h1 _ u hu2 (by omega))
    simpa using this
theorem IntSl.oneD {w : World} {s : Value} {xs : List Int} (h : IntSl w s xs) : s.oneCell' = true := by
  obtain ⟨a, c, rfl⟩ := h.len
  rfl
set_option maxRecDepth 100000 in
set_option maxHeartbeats 2000000 in
theorem deleteX_any (lo hi P : Nat) (sv : Value) (xs : List Dv) (w : World) (h : OwnDsX w lo hi P sv xs) (k : Nat) (hk : k < xs.length) :
    Calls Tryz.prog 100 #[sv, .int .i64 k, .int .i64 (k + 1)] w fun e w' => ∃ v', e = .returned v' ∧ OwnDsX w' lo hi P v' (xs.eraseIdx k) ∧ WithX lo hi P w w' := by
  rcases h with ⟨a, c, rfl, rfl⟩ | ⟨g, cap, cs, f, rfl, hg, hcap, hmx, hB, hel, hinj⟩
  · simp at hk
  have hsz : xs.length * 4 ≤ cs.size := by
    obtain ⟨m, hm⟩ : ∃ m, xs.length = m + 1 := ⟨xs.length - 1, by omega⟩
    obtain ⟨⟨_, q, _⟩, _⟩ := hel m xs[m] (List.getElem?_eq_getElem (by omega))
    have := (Array.getElem?_eq_some_iff.1 q.2.2.2).1
    omega
  have h1 : ∀ i u, cs[i]? = some u → i < xs.length * 4 → u.oneCell' = true := by
    intro i u hu hi
    obtain ⟨⟨pv, ⟨c0, c1, c2, c3⟩, hO⟩, _⟩ := hel (i / 4) xs[i / 4] (List.getElem?_eq_getElem (by omega))
    obtain ⟨j, hj, e⟩ : ∃ j, j < 4 ∧ i = i / 4 * 4 + j := ⟨i % 4, Nat.mod_lt _ (by omega), by omega⟩
    rw [e] at hu
    match j, hj with
    | 0, _ => rw [Nat.add_zero, c0] at hu; cases hu; rfl
    | 1, _ => rw [c1] at hu; cases hu; exact hO.sl.oneD
    | 2, _ => rw [c2] at hu; cases hu; rfl
    | 3, _ => rw [c3] at hu; cases hu; rfl
  obtain ⟨n, hn⟩ : ∃ n, xs.length = n + 1 := ⟨xs.length - 1, by omega⟩
  rw [hn] at hk hsz h1
  obtain ⟨vs, hvl, hvg, hld, hst⟩ := run_append_rest w.drew g k n cs hB.drew (by omega) hsz h1
  obtain ⟨cs1, hB1, hz1, hlow1, hup1, hW1⟩ := Blk.setCellsAt g vs (k * 4) w.drew cs hB.drew (by omega)
  have hvs : k = n → vs = [] := fun e => List.eq_nil_of_length_eq_zero (by rw [hvl, e]; omega)
  obtain ⟨wo, hwo⟩ : ∃ wo, wo = w.drew.setCells g (k * 4) vs := ⟨_, rfl⟩
  have hB1' : Blk wo g cs1 46 := by rw [hwo]; exact hB1
  have hBl := hB.lt
  have hcap' : n + 1 ≤ cap := by omega
  have HE := Lib.hid (fun w' cs2 (h1 : Within g (g + 1) w w') (h2 : Blk w' g cs2 46) h3 h4 => OwnDsX.erased (k := k) hg hcap hmx (by omega) hel hinj h1 h2 h3 h4)
  obtain ⟨vs2, hvl2, hcl⟩ : ∃ vs : List Value, vs.length = 1 * 4 ∧ ∀ ty, (Builtin.clear_ #[24] ty #[.slice (some ⟨g, n * 4, none⟩) 1 (cap - n)]).run Tryz.prog wo = .ok (.tuple #[]) (wo.setCells g (n * 4) vs) := by
    obtain ⟨vs, h1, h2⟩ := run_clear_dev wo 0 g (n * 4) 1 (cap - n) (by omega) (fun j hj => by rw [hB1'.cell]; rw [Array.getElem?_eq_getElem (by omega)]; rfl) (fun j => hB1'.free j)
    exact ⟨vs, h1, fun ty => h2⟩
  obtain ⟨cs2, hB2, hlow2, hW2⟩ := Blk.setCells g vs2 (n * 4) wo cs1 hB1'
  have hW1o : Within g (g + 1) w wo := by rw [hwo]; exact ((Within.refl _ _ w).drewN 1).on hW1
  have HF : Hid (OwnDsX (wo.setCells g (n * 4) vs2) lo hi P (.slice (some ⟨g, 0, none⟩) n cap) (xs.eraseIdx k) ∧ WithX lo hi P w (wo.setCells g (n * 4) vs2)) := Lib.hid (by
    have := HE.out (wo.setCells g (n * 4) vs2) cs2 (hW1o.on hW2) hB2 (fun i hi' => by rw [hlow2 i (by omega), hlow1 i hi']) (fun i h1 h2 => by
      rw [hn] at h2
      have hj : i - k * 4 < (n - k) * 4 := by omega
      obtain ⟨u, hu⟩ : ∃ u, vs[i - k * 4]? = some u := ⟨vs[i - k * 4], List.getElem?_eq_getElem (by omega)⟩
      have e1 := hup1 _ u hu
      rw [hvg _ hj] at hu
      rw [hlow2 i (by omega)]
      rw [show k * 4 + (i - k * 4) = i by omega] at e1
      rw [e1, ← hu]
      congr 1
      omega)
    rw [hn] at this
    exact ⟨this, (hW1o.on hW2).subX hg.1.1 (by omega) (by omega)⟩)
  rw [hn]
  unfold maxLen at hmx
  have i1 : (0 : Int) ≤ (k : Int) := by omega
  have i2 : (k : Int) + 1 ≤ (n : Int) + 1 := by omega
  have i3 : (k : Int) ≤ (k : Int) + 1 := by omega
  have i4 : (n : Int) + 1 ≤ (cap : Int) := by omega
  have i5 : ((k : Int) == (k : Int) + 1) = false := by simp; omega
  have i7 : (0 : Int) ≤ (k : Int) + 1 := by omega
  have i6 : (k : Int) ≤ (cap : Int) := by omega
  have i8 : k + (n - k) ≤ cap := by omega
  have i9 : k + (n - k) = n := by omega
  clear h1 hel hinj hvg hvl hup1 hlow1 hB1 hsz hW1 hW2 hB2 hlow2 hB1' HE hW1o hvl2
  go_enter Tryz.func100, Tryz.ntmps100
  go_wp2_with fail
  by_cases hcap1 : cap = k + 1
  · obtain rfl : k = n := by omega
    have hvs' := hvs rfl
    subst hvs'
    clear hvs hld hst
    rw [show w.drew.setCells g (k * 4) [] = w.drew from rfl] at hwo
    subst hwo
    have hcl' := hcl 0
    rw [hcap1, show k + 1 - k = 1 by omega] at hcl'
    clear hcl
    go_region
    go_wp2
    go_ret
    have := HF.out
    rw [hcap1] at this
    exact ⟨_, rfl, this⟩
  · clear hvs
    subst hwo
    go_region
    go_wp2
    go_ret
    exact ⟨_, rfl, HF.out⟩
set_option maxRecDepth 100000 in
theorem removeX_any (lo hi P : Nat) (sv : Value) (xs : List Dv) (w : World) (h : OwnDsX w lo hi P sv xs) (k : Nat) (hk : k < xs.length) (hn : xs.length ≤ 1000) :
    Calls Tryz.prog 58 #[sv, .int .i64 k] w fun e w' => ∃ v', e = .returned v' ∧ OwnDsX w' lo hi P v' (xs.eraseIdx k) ∧ WithX lo hi P w w' := by
  have HD := Lib.hid (deleteX_any lo hi P sv xs w h k hk)
  have w1 : IntKind.i64.wrap ((k : Int) + 1) = (k : Int) + 1 := by simp [IntKind.wrap, IntKind.bits, IntKind.signed]; omega
  clear h hk hn
  go_enter Tryz.func58, Tryz.ntmps58
  go_wp2_with (go_at_call 100; refine HD.out.mono ?_; rintro e w2 ⟨v2, rfl, hO, hW⟩)
  go_ret
  exact ⟨_, rfl, hO, hW⟩
/- MergePair: what both sides answer, plain; the reference's l28Merge: one contract; a device put into a slice of one's own. -/
def mgE (x : Nl) (a b : Dv) : Int :=
  if serB x a b = false ∧ parB a b = false then 6 else if (mgD a b (serB x a b)).wd > 1000000 ∨ (mgD a b (serB x a b)).len > 1000000 then 3 else 0
def mgC (x : Nl) (i j : Int) : Int :=
  if nlB x = false then 1 else if 0 ≤ i ∧ i < j ∧ j < x.ds.length then
    match x.ds[i.toNat]?, x.ds[j.toNat]? with
    | some a, some b => mgE x a b
    | _, _ => 2
  else 2
def mgR (x : Nl) (i j : Int) : Nl :=
  if mgC x i j = 0 then
    match x.ds[i.toNat]?, x.ds[j.toNat]? with
    | some a, some b => ⟨x.nets, (x.ds.set i.toNat (mgD a b (serB x a b))).eraseIdx j.toNat, x.ps⟩
    | _, _ => ⟨0, [], []⟩
  else ⟨0, [], []⟩
theorem mgR_no {x : Nl} {i j : Int} (h : mgC x i j ≠ 0) : mgR x i j = ⟨0, [], []⟩ := by unfold mgR; rw [if_neg h]
theorem mgC_valid {x : Nl} {i j : Int} (h : nlB x = false) : mgC x i j = 1 := by unfold mgC; rw [if_pos h]
theorem mgC_range {x : Nl} {i j : Int} (h : nlB x = true) (h' : ¬ (0 ≤ i ∧ i < j ∧ j < x.ds.length)) : mgC x i j = 2 := by unfold mgC; rw [if_neg (by rw [h]; simp), if_neg h']
theorem mgC_in {x : Nl} {i j : Nat} {a b : Dv} (h : nlB x = true) (h' : i < j) (ha : x.ds[i]? = some a) (hb : x.ds[j]? = some b) : mgC x i j = mgE x a b := by
  have hj := (List.getElem?_eq_some_iff.1 hb).1
  unfold mgC
  rw [if_neg (by rw [h]; simp), if_pos ⟨by omega, by omega, by omega⟩]
  simp only [Int.toNat_natCast, ha, hb]
theorem mgR_in {x : Nl} {i j : Nat} {a b : Dv} (h : nlB x = true) (h' : i < j) (ha : x.ds[i]? = some a) (hb : x.ds[j]? = some b) (hc : mgE x a b = 0) : mgR x i j = ⟨x.nets, (x.ds.set i (mgD a b (serB x a b))).eraseIdx j, x.ps⟩ := by
  unfold mgR
  rw [if_pos (by rw [mgC_in h h' ha hb]; exact hc)]
  simp only [Int.toNat_natCast, ha, hb]
theorem mgD_pins {x y : Dv} {ser : Bool} (hx : Shp x) : (mgD x y ser).pins ≠ [] ∧ (mgD x y ser).pins.length ≤ 3 := by
  show mgPins x y ser ≠ [] ∧ (mgPins x y ser).length ≤ 3
  unfold mgPins
  cases ser with
  | true =>
    rw [if_pos rfl]
    by_cases hk : x.kind = 2 <;> simp [hk]
  | false =>
    rw [if_neg (by simp)]
    rcases hx with ⟨_, p, q, e⟩ | ⟨_, g, p, q, e⟩ <;> rw [e] <;> simp
theorem dvB_nums {nets : Int} {x : Dv} (h : dvB nets x = true) : (1 ≤ x.wd ∧ x.wd ≤ 1000000) ∧ (1 ≤ x.len ∧ x.len ≤ 1000000) := by
  obtain ⟨_, _, h3, h4, _⟩ := dvB_all h
  exact ⟨inB_iff.1 h3, inB_iff.1 h4⟩
theorem OwnDs.setDev {w : World} {lo hi P lo2 hi2 k : Nat} {sv : Value} {ds : List Dv} (h : OwnDs w lo hi sv ds) (hk : k < ds.length) (d : Dv) (pv : Value) (hR : OwnR w lo2 hi2 pv d.pins) (hd : d.pins ≠ []) (hlt : hi2 ≤ lo) (hP : P < lo ∨ hi ≤ P) (hP2 : P < lo2 ∨ hi2 ≤ P) :
    ∃ g cap cs, sv = .slice (some ⟨g, 0, none⟩) ds.length cap ∧ Blk w g cs 46 ∧ (lo ≤ g ∧ g < hi) ∧ k * 4 + 3 < cs.size ∧
      ∀ w', Within g (g + 1) w w' → Blk w' g (set4 cs k (.int .i64 d.kind) pv (.int .i64 d.wd) (.int .i64 d.len)) 46 → OwnDsX w' lo2 hi P sv (ds.set k d) := by
  rcases h with ⟨_, _, _, rfl⟩ | ⟨g, cap, cs, f, h1, h2, h3, h4, h5, h6, h7⟩
  · simp at hk
  obtain ⟨⟨pv0, ⟨c0, c1, c2, c3⟩, hR0⟩, hf⟩ := h6 k ds[k] (List.getElem?_eq_getElem hk)
  have hsz := (Array.getElem?_eq_some_iff.1 c3).1
  obtain ⟨gp, capp, csp, rfl, hgp, hcp, hmp, hBp, hIC⟩ := hR.cells hd
  refine ⟨g, cap, cs, h1, h5, h2, hsz, fun w' hW hB => ?_⟩
  refine .inr ⟨g, cap, _, fun i => if i = k then gp else f i, by rw [List.length_set]; exact h1, ⟨by omega, by omega⟩, by rw [List.length_set]; exact h3, h4, hB, fun i x hx => ?_, fun i j hi' hj hne => ?_⟩
  · have hil : i < ds.length := by have := (List.getElem?_eq_some_iff.1 hx).1; simpa using this
    rw [List.getElem?_set] at hx
    dsimp only
    by_cases e : i = k
    · subst e
      simp [hk] at hx
      subst hx
      rw [if_pos rfl]
      refine ⟨⟨.slice (some ⟨gp, 0, none⟩) d.pins.length capp, ⟨?_, ?_, ?_, ?_⟩, .inr ⟨gp, capp, csp, rfl, Nat.le_refl _, Nat.lt_succ_self _, hcp, hmp, hW.blk hBp (by omega), hIC⟩⟩, by omega⟩
      all_goals (simp only [set4, Array.getElem?_setIfInBounds, Array.size_setIfInBounds]; split <;> (try split) <;> (try split) <;> (try split) <;> simp_all <;> omega)
    · rw [if_neg (fun h => e h.symm)] at hx
      rw [if_neg e]
      obtain ⟨⟨pv1, ⟨d0, d1, d2, d3⟩, hR1⟩, hf1⟩ := h6 i x hx
      refine ⟨⟨pv1, ⟨?_, ?_, ?_, ?_⟩, OwnR.past hW hR1 (by omega)⟩, by omega⟩
      · rw [← d0]; simp only [set4, Array.getElem?_setIfInBounds, Array.size_setIfInBounds]; repeat rw [if_neg (by omega)]
      · rw [← d1]; simp only [set4, Array.getElem?_setIfInBounds, Array.size_setIfInBounds]; repeat rw [if_neg (by omega)]
      · rw [← d2]; simp only [set4, Array.getElem?_setIfInBounds, Array.size_setIfInBounds]; repeat rw [if_neg (by omega)]
      · rw [← d3]; simp only [set4, Array.getElem?_setIfInBounds, Array.size_setIfInBounds]; repeat rw [if_neg (by omega)]
  · rw [List.length_set] at hi' hj
    have a1 := h6 i ds[i] (List.getElem?_eq_getElem hi')
    have a2 := h6 j ds[j] (List.getElem?_eq_getElem hj)
    dsimp only
    split <;> split
    · omega
    · omega
    · omega
    · exact h7 i j hi' hj hne
/- MergePair: the devices of the merged netlist, one by one (plain). -/
/- The program's MergePair. -/
theorem ownNlX_zero (w : World) (lo hi : Nat) (h : lo < hi) : OwnNlX w lo hi (.agg #[.int .i64 0, .slice none 0 0, .slice none 0 0]) ⟨0, [], []⟩ :=
  ⟨_, _, lo, rfl, .inl ⟨_, _, rfl, rfl⟩, .inl ⟨_, _, rfl, rfl⟩, Nat.le_refl _, h⟩
set_option maxRecDepth 100000 in
set_option maxHeartbeats 1000000 in
theorem implMp_no (x : Nl) (i j : Int) (v : Value) (w : World) (h : NlV w v x) (hok : ∀ p ∈ x.ps, p.ok) (hnn : Fits x.nets) (hv : nlB x = false) :
    Calls Tryz.prog 25 #[v, .int .i64 i, .int .i64 j] w fun e w' => ∃ v', e = .returned (.tuple #[v', .int .i64 (mgC x i j)]) ∧ OwnNlX w' w.heap.size w'.heap.size v' (mgR x i j) ∧ Below w.heap.size w w' := by
  have hc := mgC_valid (i := i) (j := j) hv
  rw [mgR_no (by rw [hc]; decide), hc]
  have HV := Lib.hid (fun v w h => implNl_any x v w h hok hnn)
  rw [hv] at HV
  have HN := Lib.hid h
  obtain ⟨a, c, a', c', rfl⟩ := h.sized
  clear h hok hv hc
  go_enter Tryz.func25, Tryz.ntmps25
  go_wp2_with (go_at_call 12; refine (HV.out _ _ (HN.out.by blwT)).mono ?_; rintro e w1 ⟨rfl, hb1⟩; have k1 : Blk w1 (w.heap.size + 1) #[.int .i64 0, .slice none 0 0, .slice none 0 0] 27 := blkT; have f1 := k1.free; have c1 := k1.cell; have l1 := k1.lt)
  exact bodyPost_ret (v := .tuple #[.agg #[.int .i64 0, .slice none 0 0, .slice none 0 0], .int .i64 1]) (by simp [results, Tryz.results25, go_sem, *]) rfl ⟨_, rfl, ownNlX_zero _ _ _ (by simp; omega), blwT⟩
set_option maxRecDepth 100000 in
set_option maxHeartbeats 1000000 in
theorem implMp_range (x : Nl) (i j : Int) (v : Value) (w : World) (h : NlV w v x) (hok : ∀ p ∈ x.ps, p.ok) (hnn : Fits x.nets) (hv : nlB x = true) (hr : ¬ (0 ≤ i ∧ i < j ∧ j < x.ds.length)) :
    Calls Tryz.prog 25 #[v, .int .i64 i, .int .i64 j] w fun e w' => ∃ v', e = .returned (.tuple #[v', .int .i64 (mgC x i j)]) ∧ OwnNlX w' w.heap.size w'.heap.size v' (mgR x i j) ∧ Below w.heap.size w w' := by
  have hc := mgC_range (i := i) (j := j) hv hr
  rw [mgR_no (by rw [hc]; decide), hc]
  have HV := Lib.hid (fun v w h => implNl_any x v w h hok hnn)
  rw [hv] at HV
  have HN := Lib.hid h
  obtain ⟨a, c, a', c', rfl⟩ := h.sized
  have h3 : ¬ (0 : Int) ≤ i ∨ (0 ≤ i ∧ ¬ i < j) ∨ (0 ≤ i ∧ i < j ∧ ¬ j < (x.ds.length : Int)) := by omega
  clear h hok hv hc hr
  rcases h3 with r1 | ⟨r1, r2⟩ | ⟨r1, r2, r3⟩
  rotate_left 2
  have r4 : decide (j < (x.ds.length : Int)) = false := decide_eq_false r3
  have r5 : (!decide (j < (x.ds.length : Int))) = true := by rw [r4]; rfl
  rotate_left
  all_goals
    go_enter Tryz.func25, Tryz.ntmps25
    go_wp2_with (go_at_call 12; refine (HV.out _ _ (HN.out.by blwT)).mono ?_; rintro e w1 ⟨rfl, hb1⟩; have k1 : Blk w1 (w.heap.size + 1) #[.int .i64 0, .slice none 0 0, .slice none 0 0] 27 := blkT; have k0 : Blk w1 w.heap.size #[.int .i64 x.nets, .slice a x.ds.length c, .slice a' x.ps.length c'] 27 := blkT; have f1 := k1.free; have c1 := k1.cell; have l1 := k1.lt; have c0 := k0.cell)
    exact bodyPost_ret (v := .tuple #[.agg #[.int .i64 0, .slice none 0 0, .slice none 0 0], .int .i64 2]) (by simp [results, Tryz.results25, go_sem, *]) rfl ⟨_, rfl, ownNlX_zero _ _ _ (by simp; omega), blwT⟩
set_option maxRecDepth 100000 in
set_option maxHeartbeats 4000000 in
theorem implMp_in (x : Nl) (i j : Nat) (A B : Dv) (v : Value) (w : World) (h : NlV w v x) (hok : ∀ p ∈ x.ps, p.ok) (hnn : Fits x.nets) (hv : nlB x = true) (hij : i < j) (hA : x.ds[i]? = some A) (hB : x.ds[j]? = some B) :
    Calls Tryz.prog 25 #[v, .int .i64 i, .int .i64 j] w fun e w' => ∃ v', e = .returned (.tuple #[v', .int .i64 (mgC x i j)]) ∧ OwnNlX w' w.heap.size w'.heap.size v' (mgR x i j) ∧ Below w.heap.size w w' := by
  have HC := Lib.hid (mgC_in hv hij hA hB)
  have HR := Lib.hid (mgR_in hv hij hA hB)
  have HRN := Lib.hid (@mgR_no x i j)
  have HV := Lib.hid (fun v w h => implNl_any x v w h hok hnn)
  rw [hv] at HV
  have HN := Lib.hid h
  obtain ⟨hn24, hl24, hp8, hdv, _⟩ := nlB_facts hv
  have mA := List.mem_of_getElem? hA
  have mB := List.mem_of_getElem? hB
  obtain ⟨nn, hnn'⟩ : ∃ nn : Nat, x.nets = nn := ⟨x.nets.toNat, by omega⟩
  have hnn24 : nn ≤ 24 := by omega
  have HD := Lib.hid (fun v w h => degrees_any x nn v w h hnn' (by omega) (by omega) (fun d hd => (dvB_pins (hdv d hd)).1) (fun d hd => (dvB_pins (hdv d hd)).2.2))
  have HS := Lib.hid (fun v su sx sy w h1 h2 h3 h4 => serial_any x nn A B v su sx sy w hv hnn' mA mB h1 h2 h3 h4)
  have HPL := Lib.hid (fun s t w h h' => parallel_any A B s t w h h' (shp_of (hdv A mA)) (shp_of (hdv B mB)))
  have cA := cur_in (hdv A mA)
  have cB := cur_in (hdv B mB)
  have bA := dvB_nums (hdv A mA)
  have bB := dvB_nums (hdv B mB)
  have HM := Lib.hid (fun ser net sx sy w h h' hs => merged_any A B ser net sx sy w h h' (shp_of (hdv A mA)) (shp_of (hdv B mB)) ⟨⟨cA.1.1, by omega⟩, cA.2.1, by omega⟩ ⟨⟨cB.1.1, by omega⟩, cB.2.1, by omega⟩ bA.1 bA.2 bB.1 bB.2 hs)
  have HCP := Lib.hid (fun v w h => copyNetlist_any x v w h (by omega) (by omega) (fun d hd => by have h1 := (dvB_pins (hdv d hd)).1; have h2 := (dvB_pins (hdv d hd)).2.1; exact ⟨by omega, fun e => by rw [e] at h2; simp at h2⟩))
  have HMP := Lib.hid (fun ser => @mgD_pins A B ser (shp_of (hdv A mA)))
  have hj := (List.getElem?_eq_some_iff.1 hB).1
  obtain ⟨s1, s2, rfl, hd, hp⟩ := h
  obtain ⟨nets, ds, ps⟩ := x
  dsimp only at hA hB hd hp hl24 hp8 hj HN HCP HC HR HRN
  rcases hd with ⟨_, _, _, h2⟩ | ⟨G, off, cap, rfl, hcap, hmx, hel⟩
  · rw [h2] at hj; simp at hj
  obtain ⟨sA, a0, a1, a2, a3, hSA⟩ := hel i A hA
  obtain ⟨sB, b0, b1, b2, b3, hSB⟩ := hel j B hB
  obtain ⟨a', c', rfl⟩ := hp.sized
  have HSA := Lib.hid hSA
  have HSB := Lib.hid hSB
  have lG := lt_of_cell a0
  dsimp only at lG
  obtain ⟨aA, pcA, rfl⟩ := hSA.len
  obtain ⟨aB, pcB, rfl⟩ := hSB.len
  have r1 : (0 : Int) ≤ (i : Int) := by omega
  have r2 : (i : Int) < (j : Int) := by omega
  have r3 : (j : Int) < (ds.length : Int) := by omega
  have r4 : (i : Int) < (ds.length : Int) := by omega
  have r5 : (0 : Int) ≤ (j : Int) := by omega
  clear hok hnn hv hA hB hp hel hSA hSB hdv mA mB cA cB bA bB hn24 hnn'
  go_enter Tryz.func25, Tryz.ntmps25
  go_wp2_with fail
  refine (HV.out _ _ (HN.out.by blwT)).mono ?_
  rintro e w1 ⟨rfl, hb1⟩
  have k1 : Blk w1 (w.heap.size + 1) #[.int .i64 0, .slice none 0 0, .slice none 0 0] 27 := blkT
  have k0 : Blk w1 w.heap.size #[.int .i64 nets, .slice (some ⟨G, off, none⟩) ds.length cap, .slice a' ps.length c'] 27 := blkT
  have hB1 : Below w.heap.size w w1 := blwT
  have c0 := k0.cell
  have l0 := k0.lt
  have l1 := k1.lt
  replace a0 := (hB1.cell lG).trans a0
  replace a1 := (hB1.cell lG).trans a1
  replace a2 := (hB1.cell lG).trans a2
  replace a3 := (hB1.cell lG).trans a3
  replace b0 := (hB1.cell lG).trans b0
  replace b1 := (hB1.cell lG).trans b1
  replace b2 := (hB1.cell lG).trans b2
  replace b3 := (hB1.cell lG).trans b3
  have lG1 : G < w1.heap.size := by omega
  go_upto_region 5 with fail
  go_cut [8, 9] (fun s8 s9 wx => ∃ p q : Nat, s8 = .pointer (some ⟨p, 0, none⟩) ∧ s9 = .pointer (some ⟨q, 0, none⟩) ∧ Blk wx p #[.int .i64 A.kind, .slice aA A.pins.length pcA, .int .i64 A.wd, .int .i64 A.len] 46 ∧ Blk wx q #[.int .i64 B.kind, .slice aB B.pins.length pcB, .int .i64 B.wd, .int .i64 B.len] 46 ∧
    Blk wx (w.heap.size + 1) #[.int .i64 0, .slice none 0 0, .slice none 0 0] 27 ∧ Blk wx w.heap.size #[.int .i64 nets, .slice (some ⟨G, off, none⟩) ds.length cap, .slice a' ps.length c'] 27 ∧ (w.heap.size + 1 < p ∧ w.heap.size + 1 < q ∧ p ≠ q) ∧ Below w.heap.size w wx)
  case first =>
    go_region
    all_goals (go_wp2_with fail; go_meet)
    · exact ⟨_, _, rfl, rfl, ((Blk.new _ rfl).past _).drew, (Blk.new _ (by simp)).drew, blkT, blkT, ⟨by omega, by simp <;> omega, by simp <;> omega⟩, blwT⟩
    · exact ⟨_, _, rfl, rfl, (Blk.new _ (by simp)).drew, ((Blk.new _ rfl).past _).drew, blkT, blkT, ⟨by simp <;> omega, by omega, by simp <;> omega⟩, blwT⟩
  case rest =>
    clear k0 k1 c0 l0 l1 a0 a1 a2 a3 b0 b1 b2 b3 lG1 hB1 hb1
    obtain ⟨p, q, rfl, rfl, kA, kB, k1, k0, ⟨hp, hq, hpq⟩, hBc⟩ := hcut
    have lA := kA.lt
    have lB := kB.lt
    have l0 := k0.lt
    have cA := kA.cell
    have cB := kB.cell
    have c0 := k0.cell
    go_upto_region 6 with fail
    go_region_held3 ((fun w' => (Blk w' (w.heap.size) #[.int .i64 nets, .slice (some ⟨G, off, none⟩) ds.length cap, .slice a' ps.length c'] 27 ∧ ∀ o, w'.cell? ⟨w.heap.size, o, none⟩ = (#[.int .i64 nets, .slice (some ⟨G, off, none⟩) ds.length cap, .slice a' ps.length c'] : Array Value)[o]?) ∧ (Blk w' (p) #[.int .i64 A.kind, .slice aA A.pins.length pcA, .int .i64 A.wd, .int .i64 A.len] 46 ∧ ∀ o, w'.cell? ⟨p, o, none⟩ = (#[.int .i64 A.kind, .slice aA A.pins.length pcA, .int .i64 A.wd, .int .i64 A.len] : Array Value)[o]?) ∧ (Blk w' (q) #[.int .i64 B.kind, .slice aB B.pins.length pcB, .int .i64 B.wd, .int .i64 B.len] 46 ∧ ∀ o, w'.cell? ⟨q, o, none⟩ = (#[.int .i64 B.kind, .slice aB B.pins.length pcB, .int .i64 B.wd, .int .i64 B.len] : Array Value)[o]?) ∧ Below w.heap.size w w')) (((try (obtain ⟨⟨hS0, _⟩, ⟨hS1, _⟩, ⟨hS2, _⟩, hSB⟩ := hHeld)); refine ⟨Blk.both ?_, Blk.both ?_, Blk.both ?_, ?_⟩ <;> first | ((repeat (first | (with_reducible assumption) | (with_reducible refine Blk.drewN ?_ _) | (with_reducible refine Blk.drew ?_) | ((with_reducible refine Blk.new _ ?_); focus (first | omega | (simp; done) | (simp; omega))) | (with_reducible refine Blk.past ?_ _) | ((with_reducible refine Blk.apart ?_ _ _ _ ?_); rotate_left; focus (first | omega | (simp; done) | (simp; omega))) | (with_reducible refine Blk.by (by assumption) ?_))); done) | ((repeat (first | (with_reducible exact Below.refl _ _) | (with_reducible refine below_drewN ?_ _) | (with_reducible refine Below.drew ?_) | (with_reducible refine below_al ?_ _) | (with_reducible refine below_on (by assumption) ?_) | ((with_reducible refine Below.setCell ?_ ?_ _); rotate_left; focus (first | omega | (simp; done) | (simp; omega))) | (with_reducible assumption))); done)))
      (first | (go_at_call 55; refine (HD.out _ _ (HN.out.by blwT)).mono ?_; rintro e w2 ⟨gd, rfl, hI, hgl, hb2⟩; have HI := Lib.hid hI) | (go_at_call 54; refine (HS.out _ _ _ _ _ (HN.out.by blwT) (by have h := HI.out.sl (by rw [length_degs]; omega); rw [length_degs] at h; exact h) (HSA.out.by blwT) (HSB.out.by blwT)).mono ?_; rintro e w3 ⟨rN, rfl, hrN, hb3⟩))
    rename_i hH3
    have k13 : Blk w3 (w.heap.size + 1) #[.int .i64 0, .slice none 0 0, .slice none 0 0] 27 := by first | with_reducible exact Blk.by hb3 (Blk.by hb2 k1.drew) | with_reducible exact Blk.by hb3 (Blk.by hb2 k1)
    obtain ⟨⟨kN3, -⟩, ⟨kA3, -⟩, ⟨kB3, -⟩, hB3⟩ := hH3
    clear kA kB k0 k1 cA cB c0 lA lB l0 hBc hb2 hb3 HI hgl
    have lA := kA3.lt
    have lB := kB3.lt
    have l0 := kN3.lt
    have cA := kA3.cell
    have cB := kB3.cell
    have c0 := kN3.cell
    go_upto_region 7 with fail
    go_cut [11, 46, 54, 62] (fun s11 s46 s54 s wx => s11 = .bool (serB ⟨nets, ds, ps⟩ A B) ∧ s46 = .tuple #[.int .i64 rN, .bool (serB ⟨nets, ds, ps⟩ A B)] ∧ s54 = .bool (serB ⟨nets, ds, ps⟩ A B) ∧ s = .bool (!serB ⟨nets, ds, ps⟩ A B && !parB A B) ∧ Blk wx p #[.int .i64 A.kind, .slice aA A.pins.length pcA, .int .i64 A.wd, .int .i64 A.len] 46 ∧ Blk wx q #[.int .i64 B.kind, .slice aB B.pins.length pcB, .int .i64 B.wd, .int .i64 B.len] 46 ∧
      Blk wx (w.heap.size + 1) #[.int .i64 0, .slice none 0 0, .slice none 0 0] 27 ∧ Blk wx w.heap.size #[.int .i64 nets, .slice (some ⟨G, off, none⟩) ds.length cap, .slice a' ps.length c'] 27 ∧ Below w.heap.size w wx)
    case first =>
      cases hS : serB ⟨nets, ds, ps⟩ A B with
      | false =>
        go_wp2_with (go_at_call 56; refine (HPL.out _ _ _ (HSA.out.by blwT) (HSB.out.by blwT)).mono ?_; rintro e w4 ⟨rfl, hb4⟩)
        go_meet
        exact ⟨by rw [hS], by rw [hS], by rw [hS], by rw [hS]; rfl, Blk.by hb4 kA3, Blk.by hb4 kB3, Blk.by hb4 k13, Blk.by hb4 kN3, below_on hb4 hB3⟩
      | true =>
        go_wp2_with fail
        go_meet
        exact ⟨by rw [hS], by rw [hS], by rw [hS], by rw [hS]; rfl, kA3, kB3, k13, kN3, hB3⟩
    case rest =>
      clear kA3 kB3 k13 kN3 lA lB l0 cA cB c0 hB3
      obtain ⟨rfl, rfl, rfl, rfl, kA, kB, k1, k0, hBc⟩ := hcut
      have lA := kA.lt
      have lB := kB.lt
      have l0 := k0.lt
      have l1 := k1.lt
      have cA := kA.cell
      have cB := kB.cell
      have c0 := k0.cell
      have c1 := k1.cell
      have f1 := k1.free
      generalize hq : (!serB ⟨nets, ds, ps⟩ A B && !parB A B) = q0
      cases q0 with
      | true =>
        have e6 : mgE ⟨nets, ds, ps⟩ A B = 6 := by unfold mgE; rw [if_pos (by simpa using hq)]
        have e6' := HC.out.trans e6
        have z6 := HRN.out (by rw [e6']; decide)
        go_wp2_with fail
        refine bodyPost_ret (v := .tuple #[.agg #[.int .i64 0, .slice none 0 0, .slice none 0 0], .int .i64 6]) (by simp [results, Tryz.results25, go_sem, *]) rfl ?_
        rw [z6, e6']
        exact ⟨_, rfl, ownNlX_zero _ _ _ (by simp; omega), blwT⟩
      | false =>
        have hst : ¬ (serB ⟨nets, ds, ps⟩ A B = false ∧ parB A B = false) := by
          rintro ⟨h1, h2⟩
          rw [h1, h2] at hq
          simp at hq
        have hsr : serB ⟨nets, ds, ps⟩ A B = true → oneB A B = true ∧ rN = serN A B := fun h => ⟨(serB_oneB h).2, hrN h⟩
        have HE : mgE ⟨nets, ds, ps⟩ A B = if (mgD A B (serB ⟨nets, ds, ps⟩ A B)).wd > 1000000 ∨ (mgD A B (serB ⟨nets, ds, ps⟩ A B)).len > 1000000 then 3 else 0 := by unfold mgE; rw [if_neg hst]
        have HM1 := Lib.hid (fun sx sy w h h' => HM.out (serB ⟨nets, ds, ps⟩ A B) rN sx sy w h h' hsr)
        have hpn := (HMP.out (serB ⟨nets, ds, ps⟩ A B)).1
        have HRR := HR.out
        obtain ⟨d, hd⟩ : ∃ d, mgD A B (serB ⟨nets, ds, ps⟩ A B) = d := ⟨_, rfl⟩
        rw [hd] at HM1 HE hpn HRR
        generalize mgE ⟨nets, ds, ps⟩ A B = me at *
        replace HE := Lib.hid HE
        replace HRR := Lib.hid HRR
        replace hpn := Lib.hid hpn
        clear hd hst hsr hq hrN
        have lc1 := l1
        go_wp2_with fail
        refine (HM1.out _ _ _ (HSA.out.by blwT) (HSB.out.by blwT)).mono ?_
        rintro e w4 ⟨pv, rfl, hRd, hb4⟩
        obtain ⟨aP, cP, rfl⟩ := hRd.sl.len
        replace k0 := Blk.by hb4 k0
        replace k1 := Blk.by hb4 k1
        have hs4 := hb4.size
        have hB4 := below_on hb4 hBc
        have HRd := Lib.hid hRd
        clear cA cB c0 c1 f1 kA kB hRd hb4
        replace l0 := k0.lt
        replace l1 := k1.lt
        have c0 := k0.cell
        have c1 := k1.cell
        have f1 := k1.free
        rcases (by omega : 1000000 < d.wd ∨ (¬ 1000000 < d.wd ∧ 1000000 < d.len) ∨ (¬ 1000000 < d.wd ∧ ¬ 1000000 < d.len)) with g1 | ⟨g1, g2⟩ | ⟨g1, g2⟩
        rotate_left 2
        · have e0 : me = 0 := by rw [HE.out, if_neg (by omega)]
          have z0 := HRR.out e0
          have e0' := HC.out.trans e0
          replace z0 := Lib.hid z0
          replace e0' := Lib.hid e0'
          go_wp2_with fail
          have kD0 : Blk (w4.alloc (.cells #[.int .i64 d.kind, .slice aP d.pins.length cP, .int .i64 d.wd, .int .i64 d.len] 46)) w4.heap.size #[.int .i64 d.kind, .slice aP d.pins.length cP, .int .i64 d.wd, .int .i64 d.len] 46 := Blk.new _ rfl
          refine (HCP.out _ _ (HN.out.by blwT)).mono ?_
          rintro e w5 ⟨v5, rfl, hO, hb5⟩
          obtain ⟨t1, t2, lo1, hi1, lo2, hi2, rfl, hOD, hOP, hi1', hi2', hap⟩ := hO
          dsimp only at hOD hOP
          have hs5 := hb5.size
          simp only [World.size_alloc] at hs5 hi1' hi2'
          have kD := Blk.by hb5 kD0
          have k15 := Blk.by hb5 (k1.past _)
          have hRd5 := OwnR.by hb5 (OwnR.by ((Below.refl _ w4).alloc (Nat.le_refl _) (.cells #[.int .i64 d.kind, .slice aP d.pins.length cP, .int .i64 d.wd, .int .i64 d.len] 46)) HRd.out)
          have hB5 := below_on hb5 (below_al hB4 (.cells #[.int .i64 d.kind, .slice aP d.pins.length cP, .int .i64 d.wd, .int .i64 d.len] 46))
          obtain ⟨P, hPP, hPr⟩ := hOP.spot w.heap.size
          obtain ⟨g, cap5, cs, rfl, kG, hg, hsz, HX⟩ := hOD.setDev (P := P) (k := i) (by omega) d _ hRd5 hpn.out (by omega) (by omega) (by omega)
          obtain ⟨a2', c2', rfl⟩ := hOP.sl.sized
          have HX := Lib.hid HX
          have HPP := Lib.hid hPP
          clear c0 c1 f1 k0 k1 l0 l1 kD0 hRd5 hb5 hOD hOP hB4
          have lD := kD.lt
          have cD := kD.cell
          have lG5 := kG.lt
          have l15 := k15.lt
          have fG := kG.free
          obtain ⟨u0, hu0⟩ : ∃ u, cs[i * 4]? = some u := ⟨cs[i * 4]'(by omega), Array.getElem?_eq_getElem _⟩
          obtain ⟨u1, hu1⟩ : ∃ u, cs[i * 4 + 1]? = some u := ⟨cs[i * 4 + 1]'(by omega), Array.getElem?_eq_getElem _⟩
          obtain ⟨u2, hu2⟩ : ∃ u, cs[i * 4 + 2]? = some u := ⟨cs[i * 4 + 2]'(by omega), Array.getElem?_eq_getElem _⟩
          obtain ⟨u3, hu3⟩ : ∃ u, cs[i * 4 + 3]? = some u := ⟨cs[i * 4 + 3]'(by omega), Array.getElem?_eq_getElem _⟩
          rw [← kG.cell] at hu0 hu1 hu2 hu3
          go_wp2_with fail
          have hW6 : Within g (g + 1) w5 (((((w5.setCell ⟨g, i * 4, none⟩ (.int .i64 d.kind)).setCell ⟨g, i * 4 + 1, none⟩ (.slice aP d.pins.length cP)).setCell ⟨g, i * 4 + 2, none⟩ (.int .i64 d.wd)).setCell ⟨g, i * 4 + 3, none⟩ (.int .i64 d.len)).alloc (.cells #[.int .i64 nets, .slice (some ⟨g, 0, none⟩) ds.length cap5, .slice a2' ps.length c2'] 27)) := ((((Within.off _).on (Within.off _)).on (Within.off _)).on (Within.off _)).alloc _
          have hX6 := HX.out _ hW6 (((((kG.set _ _).set _ _).set _ _).set _ _).past _)
          have kN6 : Blk (((((w5.setCell ⟨g, i * 4, none⟩ (.int .i64 d.kind)).setCell ⟨g, i * 4 + 1, none⟩ (.slice aP d.pins.length cP)).setCell ⟨g, i * 4 + 2, none⟩ (.int .i64 d.wd)).setCell ⟨g, i * 4 + 3, none⟩ (.int .i64 d.len)).alloc (.cells #[.int .i64 nets, .slice (some ⟨g, 0, none⟩) ds.length cap5, .slice a2' ps.length c2'] 27)) w5.heap.size #[.int .i64 nets, .slice (some ⟨g, 0, none⟩) ds.length cap5, .slice a2' ps.length c2'] 27 := Blk.new _ (by simp)
          have k16 := hW6.blk k15 (by omega)
          have hPP6 := OwnPs.past hW6 HPP.out (by omega)
          have hB6 := hW6.below hB5 (by omega)
          have hs6 : (((((w5.setCell ⟨g, i * 4, none⟩ (.int .i64 d.kind)).setCell ⟨g, i * 4 + 1, none⟩ (.slice aP d.pins.length cP)).setCell ⟨g, i * 4 + 2, none⟩ (.int .i64 d.wd)).setCell ⟨g, i * 4 + 3, none⟩ (.int .i64 d.len)).alloc (.cells #[.int .i64 nets, .slice (some ⟨g, 0, none⟩) ds.length cap5, .slice a2' ps.length c2'] 27)).heap.size = w5.heap.size + 1 := by simp
          clear lD cD lG5 l15 fG hu0 hu1 hu2 hu3 kG kD k15 hW6
          generalize (((((w5.setCell ⟨g, i * 4, none⟩ (.int .i64 d.kind)).setCell ⟨g, i * 4 + 1, none⟩ (.slice aP d.pins.length cP)).setCell ⟨g, i * 4 + 2, none⟩ (.int .i64 d.wd)).setCell ⟨g, i * 4 + 3, none⟩ (.int .i64 d.len)).alloc (.cells #[.int .i64 nets, .slice (some ⟨g, 0, none⟩) ds.length cap5, .slice a2' ps.length c2'] 27)) = w6 at *
          refine (removeX_any wc.heap.size hi1 P _ (ds.set i d) w6 hX6 j (by simp; omega) (by simp; omega)).mono ?_
          rintro e w7 ⟨v7, rfl, hO7, hW7⟩
          obtain ⟨a7, c7, rfl⟩ := hO7.ods.sl.sized
          have kN7 := hW7.within.blk kN6 (by omega)
          have k17 := hW7.within.blk k16 (by omega)
          have hPP7 := hPP6.pastX hW7
          have hB7 := hW7.within.below hB6 (by omega)
          have hs7 := hW7.within.size
          have cN7 := kN7.cell
          have fN7 := kN7.free
          have lN7 := kN7.lt
          have c17 := k17.cell
          have f17 := k17.free
          have l17 := k17.lt
          have hne : ¬ w5.heap.size = w.heap.size + 1 := by omega
          have hne' : ¬ w.heap.size + 1 = w5.heap.size := by omega
          have HO7 := Lib.hid hO7
          have HPP7 := Lib.hid hPP7
          clear kN6 k16 hPP6 hB6 hX6 hO7 hPP7 hW7
          generalize hL : ((ds.set i d).eraseIdx j).length = L at *
          go_wp2_with fail
          refine bodyPost_ret (v := .tuple #[.agg #[.int .i64 nets, .slice a7 L c7, .slice a2' ps.length c2'], .int .i64 0]) (by simp [results, Tryz.results25, go_sem, *]) rfl ?_
          rw [z0.out, e0'.out]
          refine ⟨_, rfl, ⟨_, _, P, rfl, ?_, ?_, ?_⟩, ?_⟩
          · exact (((((HO7.out.past (Within.off _) (by omega)).past (Within.off _) (by omega)).past (Within.off _) (by omega)).past (Within.off _) (by omega))).wide (by omega) (by simp; omega)
          · exact (((((HPP7.out.past (Within.off _) (by omega)).past (Within.off _) (by omega)).past (Within.off _) (by omega)).past (Within.off _) (by omega)))
          · simp; omega
          · repeat (first | (with_reducible exact hB7) | ((with_reducible refine Below.setCell ?_ ?_ _); rotate_left; focus (simp; try omega)))
        all_goals
          have e3 : me = 3 := by rw [HE.out, if_pos (by omega)]
          have e3' := HC.out.trans e3
          have z3 := HRN.out (by rw [e3']; decide)
          go_wp2_with fail
          refine bodyPost_ret (v := .tuple #[.agg #[.int .i64 0, .slice none 0 0, .slice none 0 0], .int .i64 3]) (by simp [results, Tryz.results25, go_sem, *]) rfl ?_
          rw [z3, e3']
          exact ⟨_, rfl, ownNlX_zero _ _ _ (by simp; omega), blwT⟩
/- MergePair: both contracts for all arguments; the netlist's bounds. -/
theorem implMp_any (x : Nl) (i j : Int) (v : Value) (w : World) (h : NlV w v x) (hok : ∀ p ∈ x.ps, p.ok) (hnn : Fits x.nets) :
    Calls Tryz.prog 25 #[v, .int .i64 i, .int .i64 j] w fun e w' => ∃ v', e = .returned (.tuple #[v', .int .i64 (mgC x i j)]) ∧ OwnNlX w' w.heap.size w'.heap.size v' (mgR x i j) ∧ Below w.heap.size w w' := by
  by_cases hv : nlB x = true
  · by_cases hr : 0 ≤ i ∧ i < j ∧ j < x.ds.length
    · obtain ⟨h1, h2, h3⟩ := hr
      obtain ⟨a, rfl⟩ := Int.eq_ofNat_of_zero_le h1
      obtain ⟨b, rfl⟩ := Int.eq_ofNat_of_zero_le (show 0 ≤ j by omega)
      exact implMp_in x a b (x.ds[a]'(by omega)) (x.ds[b]'(by omega)) v w h hok hnn hv (by omega) (List.getElem?_eq_getElem _) (List.getElem?_eq_getElem _)
    · exact implMp_range x i j v w h hok hnn hv hr
  · exact implMp_no x i j v w h hok hnn (by simpa using hv)
/- FnMergeOne's plain part: a merged netlist is valid; what becomes of the sizes. -/
theorem red_facts {n d : Int} (hn : 1 ≤ n) (hd : 1 ≤ d) : 1 ≤ redN n d ∧ 1 ≤ redD n d ∧ Int.gcd (redN n d) (redD n d) = 1 ∧ redN n d * d = redD n d * n := by
  have h1 : redN n d = n / (Int.gcd n d : Nat) := by rw [redN_ge n (by omega), Int.tdiv_eq_ediv_of_nonneg (by omega)]
  have h2 : redD n d = d / (Int.gcd n d : Nat) := by rw [redD_ge n (by omega), Int.tdiv_eq_ediv_of_nonneg (by omega)]
  have hg : 0 < Int.gcd n d := Nat.pos_of_ne_zero (fun h => by rw [Int.gcd_eq_zero_iff] at h; omega)
  obtain ⟨a, ha⟩ := Int.gcd_dvd_left (a := n) (b := d)
  obtain ⟨b, hb⟩ := Int.gcd_dvd_right (a := n) (b := d)
  generalize hG : Int.gcd n d = G at *
  have hg' : (0 : Int) < (G : Int) := by omega
  have e1 : redN n d = a := by rw [h1, ha]; exact Int.mul_ediv_cancel_left a (by omega)
  have e2 : redD n d = b := by rw [h2, hb]; exact Int.mul_ediv_cancel_left b (by omega)
  have pa : 1 ≤ a := by
    by_cases h : 1 ≤ a
    · exact h
    · have : (G : Int) * a ≤ 0 := Int.mul_nonpos_of_nonneg_of_nonpos (by omega) (by omega)
      omega
  have pb : 1 ≤ b := by
    by_cases h : 1 ≤ b
    · exact h
    · have : (G : Int) * b ≤ 0 := Int.mul_nonpos_of_nonneg_of_nonpos (by omega) (by omega)
      omega
  have hgg : Int.gcd a b = 1 := by
    have h3 : Int.gcd ((G : Int) * a) ((G : Int) * b) = G * Int.gcd a b := by rw [Int.gcd_mul_left]; simp
    rw [← ha, ← hb, hG] at h3
    have h4 : G * 1 = G * Int.gcd a b := by omega
    exact (Nat.eq_of_mul_eq_mul_left hg h4).symm
  rw [e1, e2]
  refine ⟨pa, pb, hgg, ?_⟩
  rw [ha, hb]
  rw [← Int.mul_assoc, ← Int.mul_assoc, Int.mul_comm a, Int.mul_comm b, Int.mul_assoc, Int.mul_assoc, Int.mul_comm a b]
theorem mgD_valid {nets : Int} {x y : Dv} {ser : Bool} (hx : dvB nets x = true) (hy : dvB nets y = true) (hk : x.kind = y.kind) (hs : ser = true → oneB x y = true)
    (hw : (mgD x y ser).wd ≤ 1000000) (hl : (mgD x y ser).len ≤ 1000000) : dvB nets (mgD x y ser) = true := by
  obtain ⟨a1, a2, a3, a4, a5, a6⟩ := dvB_all hx
  obtain ⟨b1, b2, b3, b4, b5, b6⟩ := dvB_all hy
  have w1 := inB_iff.1 a3
  have w2 := inB_iff.1 a4
  have w3 := inB_iff.1 b3
  have w4 := inB_iff.1 b4
  have m1 : 1 ≤ x.wd * y.len := Int.le_trans (by decide) (Int.mul_le_mul w1.1 w4.1 (by decide) (by omega))
  have m2 : 1 ≤ y.wd * x.len := Int.le_trans (by decide) (Int.mul_le_mul w3.1 w2.1 (by decide) (by omega))
  have m3 : 1 ≤ x.len * y.len := Int.le_trans (by decide) (Int.mul_le_mul w2.1 w4.1 (by decide) (by omega))
  have m4 : 1 ≤ x.wd * y.wd := Int.le_trans (by decide) (Int.mul_le_mul w1.1 w3.1 (by decide) (by omega))
  have r1 := red_facts (show 1 ≤ x.wd * y.len + y.wd * x.len by omega) m3
  have r2 := red_facts m4 (show 1 ≤ x.wd * y.len + y.wd * x.len by omega)
  have hwl : 1 ≤ (mgD x y ser).wd ∧ 1 ≤ (mgD x y ser).len ∧ ((mgD x y ser).kind ≠ 2 ∨ Int.gcd (mgD x y ser).wd (mgD x y ser).len = 1) := by
    show 1 ≤ mgW x y ser ∧ 1 ≤ mgL x y ser ∧ (x.kind ≠ 2 ∨ Int.gcd (mgW x y ser) (mgL x y ser) = 1)
    unfold mgW mgL
    by_cases hk2 : x.kind = 2
    · rw [if_pos hk2, if_pos hk2]
      cases ser with
      | true => simp only [if_true]; exact ⟨r1.1, r1.2.1, .inr r1.2.2.1⟩
      | false => simp only [Bool.false_eq_true, if_false]; exact ⟨r2.1, r2.2.1, .inr r2.2.2.1⟩
    · rw [if_neg hk2, if_neg hk2]
      cases ser with
      | true => simp only [if_true]; exact ⟨w1.1, by omega, .inl hk2⟩
      | false => simp only [Bool.false_eq_true, if_false]; exact ⟨by omega, w2.1, .inl hk2⟩
  have cx := cur_in hx
  have cy := cur_in hy
  have hpins : (mgD x y ser).pins.length = pinsOf x.kind ∧ ∀ p ∈ (mgD x y ser).pins, inB p 0 (nets - 1) = true := by
    show (mgPins x y ser).length = pinsOf x.kind ∧ ∀ p ∈ mgPins x y ser, inB p 0 (nets - 1) = true
    unfold mgPins
    cases ser with
    | false => simp only [Bool.false_eq_true, if_false]; exact ⟨a2, a5⟩
    | true =>
      simp only [if_true]
      have o1 : inB (otherN (curP x.pins) (curQ x.pins) (serN x y)) 0 (nets - 1) = true := by
        unfold otherN; split <;> (rw [inB_iff]; omega)
      have o2 : inB (otherN (curP y.pins) (curQ y.pins) (serN x y)) 0 (nets - 1) = true := by
        unfold otherN; split <;> (rw [inB_iff]; omega)
      by_cases hk2 : x.kind = 2
      · rw [if_pos hk2]
        refine ⟨by simp [pinsOf, hk2], fun p hp => ?_⟩
        simp at hp
        rcases hp with rfl | rfl
        · exact o1
        · exact o2
      · rw [if_neg hk2]
        have hg : gateOf x.pins ∈ x.pins := by
          have hsx := shp_of hx
          rcases hsx with ⟨h, _⟩ | ⟨h, g, p, q, e⟩
          · exact absurd h hk2
          · rw [e]; simp [gateOf]
        refine ⟨by simp [pinsOf, hk2], fun p hp => ?_⟩
        simp at hp
        rcases hp with rfl | rfl | rfl
        · exact a5 _ hg
        · exact o1
        · exact o2
  unfold dvB
  rw [show (mgD x y ser).kind = x.kind from rfl, a1, show decide ((mgD x y ser).pins.length = pinsOf x.kind) = true from decide_eq_true hpins.1, inB_iff.2 ⟨hwl.1, hw⟩, inB_iff.2 ⟨hwl.2.1, hl⟩, List.all_eq_true.2 hpins.2]
  have h3 := hwl.2.2
  simp only [Bool.true_and, Bool.or_eq_true, decide_eq_true_eq]
  exact h3
theorem degN_pos {ds : List Dv} {net : Int} : 0 < degN ds net ↔ ∃ d ∈ ds, net ∈ d.pins := by
  induction ds with
  | nil => simp [degN]
  | cons y ys ih =>
    simp only [degN, List.mem_cons]
    constructor
    · intro h
      by_cases hc : 0 < y.pins.count net
      · exact ⟨y, .inl rfl, List.count_pos_iff.1 hc⟩
      · obtain ⟨d, h1, h2⟩ := ih.1 (by omega)
        exact ⟨d, .inr h1, h2⟩
    · rintro ⟨d, rfl | h, h2⟩
      · have := List.count_pos_iff.2 h2; omega
      · have := ih.2 ⟨d, h, h2⟩; omega
theorem portB_iff {ps : List Pt} {net : Int} : portB ps net = true ↔ ∃ p ∈ ps, p.net = net := by
  simp [portB]
theorem usedB_iff {x : Nl} {net : Int} : usedB x net = true ↔ (∃ d ∈ x.ds, net ∈ d.pins) ∨ ∃ p ∈ x.ps, p.net = net := by
  unfold usedB
  rw [Bool.or_eq_true, portB_iff, decide_eq_true_eq, degN_pos]
theorem cnt_mono (x : Nl) {a b : Nat} (h : a ≤ b) : cnt x a ≤ cnt x b := by
  induction h with
  | refl => exact Nat.le_refl _
  | step _ ih => rw [cnt_succ]; omega
theorem cnt_lt {x : Nl} {a b : Nat} (h : a < b) (hu : usedB x a = true) : cnt x a < cnt x b := by
  have h1 := cnt_mono x (show a + 1 ≤ b from h)
  rw [cnt_succ, if_pos hu] at h1
  omega
theorem cnt_hit (x : Nl) : ∀ (n k : Nat), k < cnt x n → ∃ i, i < n ∧ usedB x i = true ∧ cnt x i = k
  | 0, k, h => by simp [cnt] at h
  | n + 1, k, h => by
    rw [cnt_succ] at h
    by_cases hk : k < cnt x n
    · obtain ⟨i, a, b⟩ := cnt_hit x n k hk
      exact ⟨i, by omega, b⟩
    · by_cases hu : usedB x n = true
      · rw [if_pos hu] at h
        exact ⟨n, by omega, hu, by omega⟩
      · rw [if_neg hu] at h; omega
theorem nmOf_nmC {x : Nl} {n p : Nat} (h : p < n) : nmOf (nmC x n) (p : Int) = (cnt x p : Int) := by
  simp [nmOf, nmC, h]
theorem name_bd {x : Nl} {p : Int} (h0 : 0 ≤ p) (h1 : p < x.nets) (hu : usedB x p = true) : 0 ≤ nmOf (nmC x x.nets.toNat) p ∧ nmOf (nmC x x.nets.toNat) p < (cnt x x.nets.toNat : Int) := by
  obtain ⟨q, rfl⟩ := Int.eq_ofNat_of_zero_le h0
  rw [nmOf_nmC (by omega)]
  have := cnt_lt (x := x) (a := q) (b := x.nets.toNat) (by omega) hu
  omega
theorem cmS_yes {x : Nl} (h : nlB x = true) : cmS x = renS x (nmC x x.nets.toNat) (cnt x x.nets.toNat) := by simp [cmS, h]
theorem ptOk_map {x : Nl} {names : List Int} {nets : Int} (i : Nat) (hi : i < x.ps.length) (h : ptOk x.nets x.ps i = true) (hb : ∀ p ∈ x.ps, inB (nmOf names p.net) 0 (nets - 1) = true) : ptOk nets (x.ps.map (renP names)) i = true := by
  have hp := List.getElem?_eq_getElem hi
  have hbi := hb x.ps[i] (List.getElem_mem hi)
  unfold ptOk at *
  rw [List.getElem?_map, hp]
  rw [hp] at h
  simp only [Option.map_some, Bool.and_eq_true] at h ⊢
  refine ⟨h.1, hbi, ?_⟩
  have h3 := h.2.2
  cases i with
  | zero => rfl
  | succ j =>
    simp only [List.getElem?_map] at h3 ⊢
    cases hj : x.ps[j]? with
    | none => rfl
    | some y => rw [hj] at h3; exact h3
theorem cmS_valid {x : Nl} (h : nlB x = true) : nlB (cmS x) = true := by
  rw [cmS_yes h]
  obtain ⟨⟨n0, n1⟩, hl, hp, hd, hpt⟩ := nlB_facts h
  have hcl := cnt_le x x.nets.toNat
  have hpn : ∀ p ∈ x.ps, inB (nmOf (nmC x x.nets.toNat) p.net) 0 ((cnt x x.nets.toNat : Int) - 1) = true := by
    intro p hpm
    obtain ⟨i, hi, e⟩ := List.getElem_of_mem hpm
    have h1 := hpt i hi
    have hin : inB p.net 0 (x.nets - 1) = true := by
      unfold ptOk at h1
      rw [List.getElem?_eq_getElem hi, e] at h1
      simp only [Bool.and_eq_true] at h1
      exact h1.2.1
    have h2 := inB_iff.1 hin
    have h3 := name_bd (x := x) (p := p.net) h2.1 (by omega) (usedB_iff.2 (.inr ⟨p, hpm, rfl⟩))
    exact inB_iff.2 ⟨h3.1, by omega⟩
  simp only [nlB, renS, Bool.and_eq_true, decide_eq_true_eq, List.all_eq_true, List.length_map, ptsB, List.mem_range]
  refine ⟨inB_iff.2 ⟨by omega, by omega⟩, hl, hp, fun d hdm => ?_, fun i hi => ptOk_map i hi (hpt i hi) hpn⟩
  obtain ⟨e, he, rfl⟩ := List.mem_map.1 hdm
  obtain ⟨a1, a2, a3, a4, a5, a6⟩ := dvB_all (hd e he)
  unfold dvB renD
  simp only [Bool.and_eq_true, decide_eq_true_eq, List.all_eq_true, List.length_map]
  refine ⟨a1, a2, a3, a4, fun p hpm => ?_, ?_⟩
  · obtain ⟨q, hq, rfl⟩ := List.mem_map.1 hpm
    have h2 := inB_iff.1 (a5 q hq)
    have h3 := name_bd (x := x) (p := q) h2.1 (by omega) (usedB_iff.2 (.inl ⟨e, he, hq⟩))
    exact inB_iff.2 ⟨h3.1, by omega⟩
  · simpa using a6
theorem cmS_used {x : Nl} (h : nlB x = true) {net : Int} (h0 : 0 ≤ net) (h1 : net < (cmS x).nets) : usedB (cmS x) net = true := by
  obtain ⟨k, rfl⟩ := Int.eq_ofNat_of_zero_le h0
  rw [cmS_yes h] at h1 ⊢
  obtain ⟨i, hi, hu, hk⟩ := cnt_hit x x.nets.toNat k (by simp only [renS] at h1; omega)
  have hn : nmOf (nmC x x.nets.toNat) (i : Int) = (k : Int) := by rw [nmOf_nmC hi, hk]
  rw [usedB_iff]
  rcases usedB_iff.1 hu with ⟨d, hd, hp⟩ | ⟨p, hp, he⟩
  · exact .inl ⟨renD _ d, List.mem_map_of_mem hd, by rw [← hn]; exact List.mem_map_of_mem hp⟩
  · exact .inr ⟨renP _ p, List.mem_map_of_mem hp, by show nmOf _ p.net = _; rw [he, hn]⟩
theorem cmS_sizes {x : Nl} (h : nlB x = true) : (cmS x).ds.length = x.ds.length ∧ (cmS x).nets ≤ x.nets ∧ 0 ≤ (cmS x).nets := by
  rw [cmS_yes h]
  have := cnt_le x x.nets.toNat
  obtain ⟨⟨n0, n1⟩, _⟩ := nlB_facts h
  refine ⟨by simp [renS], ?_, ?_⟩ <;> simp only [renS] <;> omega
/- Reducing netlists: the plain part. -/
theorem mgC_parts {x : Nl} {i j : Int} (hc : mgC x i j = 0) : nlB x = true ∧ ∃ (a b : Nat) (A B : Dv), i = a ∧ j = b ∧ a < b ∧ x.ds[a]? = some A ∧ x.ds[b]? = some B ∧ mgE x A B = 0 ∧ mgR x i j = ⟨x.nets, (x.ds.set a (mgD A B (serB x A B))).eraseIdx b, x.ps⟩ := by
  have hv : nlB x = true := by
    cases h : nlB x with
    | true => rfl
    | false => rw [mgC_valid h] at hc; exact absurd hc (by decide)
  have hr : 0 ≤ i ∧ i < j ∧ j < x.ds.length := by
    by_cases hr : 0 ≤ i ∧ i < j ∧ j < x.ds.length
    · exact hr
    · rw [mgC_range hv hr] at hc; exact absurd hc (by decide)
  obtain ⟨h1, h2, h3⟩ := hr
  obtain ⟨a, rfl⟩ := Int.eq_ofNat_of_zero_le h1
  obtain ⟨b, rfl⟩ := Int.eq_ofNat_of_zero_le (show 0 ≤ j by omega)
  have ha : x.ds[a]? = some (x.ds[a]'(by omega)) := List.getElem?_eq_getElem _
  have hb : x.ds[b]? = some (x.ds[b]'(by omega)) := List.getElem?_eq_getElem _
  rw [mgC_in hv (by omega) ha hb] at hc
  exact ⟨hv, a, b, _, _, rfl, rfl, by omega, ha, hb, hc, mgR_in hv (by omega) ha hb hc⟩
theorem mgE_zero {x : Nl} {A B : Dv} (h : mgE x A B = 0) : (serB x A B = true ∨ parB A B = true) ∧ (mgD A B (serB x A B)).wd ≤ 1000000 ∧ (mgD A B (serB x A B)).len ≤ 1000000 := by
  unfold mgE at h
  split at h
  · exact absurd h (by decide)
  · rename_i h1
    split at h
    · exact absurd h (by decide)
    · rename_i h2
      refine ⟨?_, by omega, by omega⟩
      cases h3 : serB x A B with
      | true => exact .inl rfl
      | false =>
        cases h4 : parB A B with
        | true => exact .inr rfl
        | false => exact absurd ⟨h3, h4⟩ h1
theorem mgR_okR {x : Nl} {a b : Nat} {A B : Dv} (hv : nlB x = true) (hA : x.ds[a]? = some A) (hB : x.ds[b]? = some B) (h : mgE x A B = 0) :
    nlB ⟨x.nets, (x.ds.set a (mgD A B (serB x A B))).eraseIdx b, x.ps⟩ = true := by
  have hv' := hv
  simp only [nlB, Bool.and_eq_true, decide_eq_true_eq, List.all_eq_true] at hv
  obtain ⟨h1, h2, h3, h4, h5⟩ := hv
  have mA := List.mem_of_getElem? hA
  have mB := List.mem_of_getElem? hB
  obtain ⟨hsp, hw, hl⟩ := mgE_zero h
  have hk : A.kind = B.kind := by
    rcases hsp with hs | hp
    · exact (serPre_kindE (serB_oneB hs).1).1
    · simp only [parB, Bool.and_eq_true, decide_eq_true_eq] at hp; exact hp.1
  have hd : dvB x.nets (mgD A B (serB x A B)) = true := mgD_valid (h4 A mA) (h4 B mB) hk (fun hs => (serB_oneB hs).2) hw hl
  simp only [nlB, Bool.and_eq_true, decide_eq_true_eq, List.all_eq_true]
  refine ⟨h1, ?_, h3, fun d hdm => ?_, h5⟩
  · have := List.length_eraseIdx_le (x.ds.set a (mgD A B (serB x A B))) b
    rw [List.length_set] at this
    omega
  · have hm := (List.eraseIdx_sublist _ _).subset hdm
    rcases List.mem_or_eq_of_mem_set hm with hm | rfl
    · exact h4 d hm
    · exact hd
def normD (d : Dv) : Dv := ⟨d.kind, normz d.kind d.pins, d.wd, d.len⟩
theorem lastTwo_facts (zs : List Int) : (lastTwo zs).length = zs.length ∧ ∀ p ∈ lastTwo zs, p ∈ zs := by
  match zs with
  | [] => simp [lastTwo]
  | [p] => simp [lastTwo]
  | [p, q] => simp [lastTwo]; constructor <;> omega
  | [g, p, q] => simp [lastTwo]; constructor <;> omega
  | a :: b :: c :: d :: r => simp [lastTwo]
theorem normz_facts (k : Int) (zs : List Int) : (normz k zs).length = zs.length ∧ ∀ p ∈ normz k zs, p ∈ zs := by
  unfold normz
  split
  · exact lastTwo_facts zs
  · exact ⟨rfl, fun p h => h⟩
theorem dvB_norm {nets : Int} {d : Dv} (h : dvB nets d = true) : dvB nets (normD d) = true := by
  obtain ⟨a1, a2, a3, a4, a5, a6⟩ := dvB_all h
  obtain ⟨n1, n2⟩ := normz_facts d.kind d.pins
  unfold dvB normD
  simp only [Bool.and_eq_true, decide_eq_true_eq, List.all_eq_true]
  exact ⟨a1, by rw [n1]; exact a2, a3, a4, fun p hp => a5 p (n2 p hp), by simpa using a6⟩
theorem nlB_of {x : Nl} {ds : List Dv} (h : nlB x = true) (hl : ds.length ≤ x.ds.length) (hd : ∀ d ∈ ds, dvB x.nets d = true) : nlB ⟨x.nets, ds, x.ps⟩ = true := by
  simp only [nlB, Bool.and_eq_true, decide_eq_true_eq, List.all_eq_true] at h ⊢
  exact ⟨h.1, by omega, h.2.2.1, hd, h.2.2.2.2⟩
theorem nlB_dvs {x : Nl} (h : nlB x = true) : ∀ d ∈ x.ds, dvB x.nets d = true := (nlB_facts h).2.2.2.1
def nrmS (x : Nl) : Nl := ⟨x.nets, x.ds.map normD, x.ps⟩
theorem nrmS_valid {x : Nl} (h : nlB x = true) : nlB (nrmS x) = true := nlB_of h (by simp) (fun d hd => by
  obtain ⟨e, he, rfl⟩ := List.mem_map.1 hd
  exact dvB_norm (nlB_dvs h e he))
theorem sortS_valid {x : Nl} (h : nlB x = true) : nlB (sortS x) = true := nlB_of h (by rw [length_srtD]; exact Nat.le_refl _) (fun d hd => nlB_dvs h d ((srtD_perm x.ds).mem_iff.1 hd))
theorem rmS_valid {x : Nl} (h : nlB x = true) : nlB (rmS x) = true := by
  rw [rmS_yes h]
  exact nlB_of h (List.length_filter_le _ _) (fun d hd => nlB_dvs h d (List.mem_filter.1 hd).1)
theorem rmS_len (x : Nl) : (rmS x).ds.length ≤ x.ds.length := by
  cases h : nlB x with
  | false => rw [rmS_no h]; exact Nat.zero_le _
  | true => rw [rmS_yes h]; exact List.length_filter_le _ _
theorem rmS_same {x : Nl} (h : nlB x = true) : (rmS x).nets = x.nets ∧ (rmS x).ps = x.ps := by rw [rmS_yes h]; exact ⟨rfl, rfl⟩
noncomputable def nextP (x : Nl) : Int × Int × Bool := if (firstP parB x.ds).2.2 = true then firstP parB x.ds else firstP (serB x) x.ds
theorem mgR_facts {x : Nl} {i j : Int} (h : mgC x i j = 0) : nlB (mgR x i j) = true ∧ (mgR x i j).nets = x.nets ∧ (mgR x i j).ps = x.ps ∧ (mgR x i j).ds.length + 1 = x.ds.length := by
  obtain ⟨hv, a, b, A, B, rfl, rfl, hab, hA, hB, hE, hR⟩ := mgC_parts h
  have hbl := (List.getElem?_eq_some_iff.1 hB).1
  rw [hR]
  refine ⟨mgR_okR hv hA hB hE, rfl, rfl, ?_⟩
  show ((x.ds.set a _).eraseIdx b).length + 1 = _
  rw [List.length_eraseIdx_of_lt (by simpa using hbl), List.length_set]
  omega
noncomputable def redk : Nat → Nl → Nl × Int
  | 0, x => (x, 0)
  | k + 1, x => if (nextP (rmS x)).2.2 = true then (if mgC (rmS x) (nextP (rmS x)).1 (nextP (rmS x)).2.1 = 0 then redk k (mgR (rmS x) (nextP (rmS x)).1 (nextP (rmS x)).2.1) else (⟨0, [], []⟩, mgC (rmS x) (nextP (rmS x)).1 (nextP (rmS x)).2.1)) else (rmS x, 0)
noncomputable def redF (x : Nl) : Nl × Int := redk (x.ds.length + 1) x
theorem redk_eq : ∀ (k : Nat) (x : Nl), x.ds.length < k → redk k x = redF x
  | 0, x, h => by omega
  | k + 1, x, h => by
    unfold redF redk
    split
    · split
      · rename_i h1 h2
        have hl := (mgR_facts h2).2.2.2
        have hr := rmS_len x
        rw [redk_eq k _ (by omega)]
        cases hx : x.ds.length with
        | zero => omega
        | succ m => rw [redk_eq (m + 1) _ (by omega)]
      · rfl
    · rfl
termination_by k => k
decreasing_by all_goals omega
theorem redF_eq (x : Nl) : redF x = if (nextP (rmS x)).2.2 = true then (if mgC (rmS x) (nextP (rmS x)).1 (nextP (rmS x)).2.1 = 0 then redk x.ds.length (mgR (rmS x) (nextP (rmS x)).1 (nextP (rmS x)).2.1) else (⟨0, [], []⟩, mgC (rmS x) (nextP (rmS x)).1 (nextP (rmS x)).2.1)) else (rmS x, 0) := by
  unfold redF; rw [redk]
theorem redF_stop {x : Nl} (h : (nextP (rmS x)).2.2 = false) : redF x = (rmS x, 0) := by rw [redF_eq, if_neg (by rw [h]; simp)]
theorem redF_err {x : Nl} (h : (nextP (rmS x)).2.2 = true) (h' : mgC (rmS x) (nextP (rmS x)).1 (nextP (rmS x)).2.1 ≠ 0) : redF x = (⟨0, [], []⟩, mgC (rmS x) (nextP (rmS x)).1 (nextP (rmS x)).2.1) := by
  rw [redF_eq, if_pos h, if_neg h']
theorem redF_go {x : Nl} (h : (nextP (rmS x)).2.2 = true) (h' : mgC (rmS x) (nextP (rmS x)).1 (nextP (rmS x)).2.1 = 0) : redF x = redF (mgR (rmS x) (nextP (rmS x)).1 (nextP (rmS x)).2.1) := by
  rw [redF_eq, if_pos h, if_pos h']
  have h1 := (mgR_facts h').2.2.2
  have h2 := rmS_len x
  exact redk_eq _ _ (by omega)
noncomputable def rdS (x : Nl) : Nl := if nlB x = true then (if (redF x).2 = 0 then cmS (sortS (nrmS (redF x).1)) else ⟨0, [], []⟩) else ⟨0, [], []⟩
noncomputable def rdC (x : Nl) : Int := if nlB x = true then (redF x).2 else 1
theorem rd_no {x : Nl} (h : nlB x = false) : rdS x = ⟨0, [], []⟩ ∧ rdC x = 1 := by simp [rdS, rdC, h]
theorem rd_err {x : Nl} (h : nlB x = true) (h' : (redF x).2 ≠ 0) : rdS x = ⟨0, [], []⟩ ∧ rdC x = (redF x).2 := by simp [rdS, rdC, h, h']
theorem rd_yes {x y : Nl} (h : nlB x = true) (h' : redF x = (y, 0)) : rdS x = cmS (sortS (nrmS y)) ∧ rdC x = 0 := by simp [rdS, rdC, h, h']
end Go.Proofs.YtacbdmngcdhgoaaGreat
