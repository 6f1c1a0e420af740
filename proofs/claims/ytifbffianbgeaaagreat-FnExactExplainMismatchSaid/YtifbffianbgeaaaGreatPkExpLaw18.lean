/- Contracts and plain laws, part 18, for the statement's proof. -/
import Derived.Test.YtifbffianbgeaaaGreatPkExpLaw17
import Derived.Deep.DeepCutAuto
import Derived.Deep.RegionHeld3
import Derived.Test.YtifbffianbgeaaaGreatRows
import Derived.WalkKit
import Derived.ProofKit
import Derived.OpenShut
namespace Go.Proofs.YtifbffianbgeaaaGreat
open Go.RowKit
set_option linter.unusedVariables false
set_option linter.unusedSimpArgs false
theorem exp_x {x y : Nl} (h : (nlB x && nlB y) = true) (h1 : (xplR x y).1 ≠ 0) : expR x y = (xplR x y, 0) := by
  unfold expR
  rw [if_pos h]
  by_cases e1 : x.nets = y.nets
  · rw [if_pos e1]
    by_cases e2 : x.ds.length = y.ds.length
    · rw [if_pos e2]
      by_cases e3 : namD x.ps y.ps = -1
      · rw [if_pos e3]
        by_cases e4 : sizD x.ds y.ds = -1
        · rw [if_pos e4]
          by_cases e5 : colD (refNet x).1.1 (refNet y).1.1 = -1
          · rw [if_pos e5]
            by_cases e6 : colD (refNet x).1.2 (refNet y).1.2 = -1
            · rw [xpl_7 e1 e2 e3 e4 e5 e6] at h1
              exact absurd rfl h1
            · rw [if_neg e6, xpl_6 e1 e2 e3 e4 e5 e6]
          · rw [if_neg e5, xpl_5 e1 e2 e3 e4 e5]
        · rw [if_neg e4, xpl_4 e1 e2 e3 e4]
      · rw [if_neg e3, xpl_3 e1 e2 e3]
    · rw [if_neg e2, xpl_2 e1 e2]
  · rw [if_neg e1, xpl_1 e1]
theorem exp_z {x y : Nl} (h : (nlB x && nlB y) = true) (h1 : (xplR x y).1 = 0) : expR x y = ((if (smlB x && smlB y) = true then (match cmpF x y with | some _ => ((0, 0, 0), 0) | none => ((7, 0, 0), 0)) else ((0, 0, 0), 3)) : (Int × Int × Int) × Int) := by
  unfold expR
  rw [if_pos h]
  by_cases e1 : x.nets = y.nets
  · rw [if_pos e1]
    by_cases e2 : x.ds.length = y.ds.length
    · rw [if_pos e2]
      by_cases e3 : namD x.ps y.ps = -1
      · rw [if_pos e3]
        by_cases e4 : sizD x.ds y.ds = -1
        · rw [if_pos e4]
          by_cases e5 : colD (refNet x).1.1 (refNet y).1.1 = -1
          · rw [if_pos e5]
            by_cases e6 : colD (refNet x).1.2 (refNet y).1.2 = -1
            · rw [if_pos e6]
              by_cases e : (smlB x && smlB y) = true
              · rw [if_pos e, if_pos e]
                cases cmpF x y <;> rfl
              · rw [if_neg e, if_neg e]
            · rw [xpl_6 e1 e2 e3 e4 e5 e6] at h1
              simp at h1
          · rw [xpl_5 e1 e2 e3 e4 e5] at h1
            simp at h1
        · rw [xpl_4 e1 e2 e3 e4] at h1
          simp at h1
      · rw [xpl_3 e1 e2 e3] at h1
        simp at h1
    · rw [xpl_2 e1 e2] at h1
      simp at h1
  · rw [xpl_1 e1] at h1
    simp at h1
theorem intSl_sized {w : World} {s : Value} {zs : List Int} (h : IntSl w s zs) : ∃ a c, s = .slice a zs.length c := by
  rcases h with ⟨a, c, rfl, rfl⟩ | ⟨b, o, c, rfl, _⟩
  · exact ⟨_, _, rfl⟩
  · exact ⟨_, _, rfl⟩
theorem exp_c {x y : Nl} (h : (nlB x && nlB y) = true) (h1 : (xplR x y).1 = 0) : (cmpC x y = 0 ∧ expR x y = ((0, 0, 0), 0)) ∨ (cmpC x y = 3 ∧ expR x y = ((0, 0, 0), 3)) ∨ (cmpC x y = 5 ∧ expR x y = ((7, 0, 0), 0)) := by
  rw [exp_z h h1]
  unfold cmpC
  rw [if_pos h]
  by_cases e : (smlB x && smlB y) = true
  · rw [if_pos e, if_pos e]
    cases cmpF x y with
    | some z => exact .inl ⟨rfl, rfl⟩
    | none => exact .inr (.inr ⟨rfl, rfl⟩)
  · rw [if_neg e, if_neg e]
    exact .inr (.inl ⟨rfl, rfl⟩)
set_option maxRecDepth 100000 in
set_option maxHeartbeats 4000000 in
theorem implExp_any (x y : Nl) (v u : Value) (w : World) (h : NlV w v x) (h' : NlV w u y) (hok : ∀ p ∈ x.ps, p.ok) (hfx : Fits x.nets) (hok' : ∀ p ∈ y.ps, p.ok) (hfy : Fits y.nets) :
    Calls Tryz.prog 20 #[v, u] w fun e w' => e = .returned (.tuple #[.agg #[.int .i64 (expR x y).1.1, .int .i64 (expR x y).1.2.1, .int .i64 (expR x y).1.2.2], .int .i64 (expR x y).2]) ∧ Below w.heap.size w w' := by
  have HV := Lib.hid h
  have HU := Lib.hid h'
  have HVX := Lib.hid (fun v w h => implNl_any x v w h hok hfx)
  have HVY := Lib.hid (fun v w h => implNl_any y v w h hok' hfy)
  have HXP := Lib.hid (fun hx hy v u w h h' => explained_any x y v u w h h' hx hy)
  have HCM := Lib.hid (fun v u w h h' => implCmpNl_any x y v u w h h' hok hfx hok' hfy)
  obtain ⟨a1, c1, a2, c2, rfl⟩ := h.sized
  obtain ⟨b1, d1, b2, d2, rfl⟩ := h'.sized
  obtain ⟨⟨⟨EK, EP, EQ⟩, EC⟩, hE⟩ : ∃ E, expR x y = E := ⟨_, rfl⟩
  rw [hE]
  have HE := Lib.hid hE
  obtain ⟨nx, hnx⟩ : ∃ N, x.nets = N := ⟨_, rfl⟩
  obtain ⟨ny, hny⟩ : ∃ N, y.nets = N := ⟨_, rfl⟩
  obtain ⟨n, hn⟩ : ∃ N, x.ds.length = N := ⟨_, rfl⟩
  obtain ⟨n2, hn2⟩ : ∃ N, y.ds.length = N := ⟨_, rfl⟩
  obtain ⟨p, hp⟩ : ∃ N, x.ps.length = N := ⟨_, rfl⟩
  obtain ⟨p2, hp2⟩ : ∃ N, y.ps.length = N := ⟨_, rfl⟩
  rw [hnx, hn, hp] at HV ⊢
  rw [hny, hn2, hp2] at HU ⊢
  have kA1 : Blk (((w.alloc (.cells #[.int .i64 nx, .slice a1 n c1, .slice a2 p c2] 35)).alloc (.cells #[.int .i64 ny, .slice b1 n2 d1, .slice b2 p2 d2] 35)).alloc (.cells #[.int .i64 0, .int .i64 0, .int .i64 0] 43)) w.heap.size #[.int .i64 nx, .slice a1 n c1, .slice a2 p c2] 35 := ((Blk.new _ rfl).past _).past _
  have kB1 : Blk (((w.alloc (.cells #[.int .i64 nx, .slice a1 n c1, .slice a2 p c2] 35)).alloc (.cells #[.int .i64 ny, .slice b1 n2 d1, .slice b2 p2 d2] 35)).alloc (.cells #[.int .i64 0, .int .i64 0, .int .i64 0] 43)) (w.heap.size + 1) #[.int .i64 ny, .slice b1 n2 d1, .slice b2 p2 d2] 35 := (Blk.new _ (by simp)).past _
  have kR1 : Blk (((w.alloc (.cells #[.int .i64 nx, .slice a1 n c1, .slice a2 p c2] 35)).alloc (.cells #[.int .i64 ny, .slice b1 n2 d1, .slice b2 p2 d2] 35)).alloc (.cells #[.int .i64 0, .int .i64 0, .int .i64 0] 43)) (w.heap.size + 2) #[.int .i64 0, .int .i64 0, .int .i64 0] 43 := Blk.new _ (by simp)
  have hb1w : Below w.heap.size w (((w.alloc (.cells #[.int .i64 nx, .slice a1 n c1, .slice a2 p c2] 35)).alloc (.cells #[.int .i64 ny, .slice b1 n2 d1, .slice b2 p2 d2] 35)).alloc (.cells #[.int .i64 0, .int .i64 0, .int .i64 0] 43)) := (((Below.refl _ w).alloc (Nat.le_refl _) _).alloc (by simp) _).alloc (by simp; omega) _
  clear h h' hok hok' hfx hfy hnx hny hn hn2 hp hp2 hE
  have qA := kA1.cell
  have qB := kB1.cell
  have lA := kA1.lt
  have lB := kB1.lt
  go_enter Tryz.func20, Tryz.ntmps20
  go_wp2_with fail
  generalize (((w.alloc (.cells #[.int .i64 nx, .slice a1 n c1, .slice a2 p c2] 35)).alloc (.cells #[.int .i64 ny, .slice b1 n2 d1, .slice b2 p2 d2] 35)).alloc (.cells #[.int .i64 0, .int .i64 0, .int .i64 0] 43)) = w1 at *
  refine (HVX.out _ _ (HV.out.by hb1w)).mono ?_
  rintro e w2 ⟨rfl, hb2⟩
  have kA2 := Blk.by hb2 kA1
  have kB2 := Blk.by hb2 kB1
  have kR2 := Blk.by hb2 kR1
  have hb2w := below_on hb2 hb1w
  clear hb2 kA1 kB1 kR1 hb1w qA qB lA lB
  have qA := kA2.cell
  have qB := kB2.cell
  have lA := kA2.lt
  have lB := kB2.lt
  cases hx : nlB x with
  | false =>
    obtain ⟨rfl, rfl, rfl, rfl⟩ : (0 : Int) = EK ∧ (0 : Int) = EP ∧ (0 : Int) = EQ ∧ (1 : Int) = EC := by
      have h := (exp_inv (x := x) (y := y) (by rw [hx]; rfl)).symm.trans HE.out
      simp only [Prod.mk.injEq] at h
      exact ⟨h.1.1, h.1.2.1, h.1.2.2, h.2⟩
    have qR := kR2.cell
    have fR := kR2.free
    have lR := kR2.lt
    go_wp2
    exact bodyPost_ret (v := .tuple #[.agg #[.int .i64 (0), .int .i64 (0), .int .i64 (0)], .int .i64 1]) (by simp [results, Tryz.results20, go_sem, *]) rfl ⟨rfl, ((hb2w.setCell (show w.heap.size ≤ w.heap.size + 2 by omega) _).setCell (show w.heap.size ≤ w.heap.size + 2 by omega) _).setCell (show w.heap.size ≤ w.heap.size + 2 by omega) _⟩
  | true =>
    have HXB := Lib.hid hx
    clear hx
    go_wp2_with fail
    refine (HVY.out _ _ (HU.out.by hb2w)).mono ?_
    rintro e w3 ⟨rfl, hb3⟩
    have kA3 := Blk.by hb3 kA2
    have kB3 := Blk.by hb3 kB2
    have kR3 := Blk.by hb3 kR2
    have hb3w := below_on hb3 hb2w
    clear hb3 kA2 kB2 kR2 hb2w qA qB lA lB
    have qA := kA3.cell
    have qB := kB3.cell
    have lA := kA3.lt
    have lB := kB3.lt
    cases hy : nlB y with
    | false =>
      obtain ⟨rfl, rfl, rfl, rfl⟩ : (0 : Int) = EK ∧ (0 : Int) = EP ∧ (0 : Int) = EQ ∧ (1 : Int) = EC := by
        have h := (exp_inv (x := x) (y := y) (by rw [hy]; cases nlB x <;> rfl)).symm.trans HE.out
        simp only [Prod.mk.injEq] at h
        exact ⟨h.1.1, h.1.2.1, h.1.2.2, h.2⟩
      have qR := kR3.cell
      have fR := kR3.free
      have lR := kR3.lt
      go_wp2
      exact bodyPost_ret (v := .tuple #[.agg #[.int .i64 (0), .int .i64 (0), .int .i64 (0)], .int .i64 1]) (by simp [results, Tryz.results20, go_sem, *]) rfl ⟨rfl, ((hb3w.setCell (show w.heap.size ≤ w.heap.size + 2 by omega) _).setCell (show w.heap.size ≤ w.heap.size + 2 by omega) _).setCell (show w.heap.size ≤ w.heap.size + 2 by omega) _⟩
    | true =>
      have HYB := Lib.hid hy
      have HB := Lib.hid (show (nlB x && nlB y) = true by rw [HXB.out, hy]; rfl)
      clear hy
      go_wp2_with fail
      refine (HXP.out HXB.out HYB.out _ _ w3 (HV.out.by hb3w) (HU.out.by hb3w)).mono ?_
      rintro e w4 ⟨rfl, hb4⟩
      obtain ⟨⟨K, L, R⟩, hX⟩ : ∃ X, xplR x y = X := ⟨_, rfl⟩
      rw [hX]
      dsimp only
      have HX := Lib.hid hX
      have kA4 := Blk.by hb4 kA3
      have kB4 := Blk.by hb4 kB3
      have kR4 := Blk.by hb4 kR3
      have hb4w := below_on hb4 hb3w
      clear hX hb4 kA3 kB3 kR3 hb3w qA qB lA lB
      have hal : Below w4.heap.size w4 (w4.alloc (.cells #[.int .i64 K, .int .i64 L, .int .i64 R] 43)) := (Below.refl _ w4).alloc (Nat.le_refl _) _
      have kX5 : Blk (w4.alloc (.cells #[.int .i64 K, .int .i64 L, .int .i64 R] 43)) w4.heap.size #[.int .i64 K, .int .i64 L, .int .i64 R] 43 := Blk.new _ rfl
      have kA5 := Blk.by hal kA4
      have kB5 := Blk.by hal kB4
      have kR5 := Blk.by hal kR4
      have hb5w := below_on hal hb4w
      clear hal kA4 kB4 kR4
      by_cases hK : K = 0
      · subst hK
        have k0 : ((0 : Int) != 0) = false := by decide
        have qA := kA5.cell
        have qB := kB5.cell
        have lA := kA5.lt
        have lB := kB5.lt
        have hab := hb4w.size
        clear hb4w
        go_wp2_with fail
        generalize w4.alloc (.cells #[.int .i64 0, .int .i64 L, .int .i64 R] 43) = w5 at *
        refine (HCM.out _ _ w5 (HV.out.by hb5w) (HU.out.by hb5w)).mono ?_
        rintro e w6 ⟨mv, rfl, hO, hb6⟩
        obtain ⟨s1, s2, _, _, _, _, rfl, hk1, hk2, _⟩ := hO
        obtain ⟨g1, g2, rfl⟩ := intSl_sized hk1.sl
        obtain ⟨g3, g4, rfl⟩ := intSl_sized hk2.sl
        generalize (cmpR x y).1.length = l1
        generalize (cmpR x y).2.length = l2
        clear hk1 hk2
        have kR6 := Blk.by hb6 kR5
        have hb6w := below_on hb6 hb5w
        have hall : Below w6.heap.size w6 (w6.alloc (.cells #[.slice g1 l1 g2, .slice g3 l2 g4] 29)) := (Below.refl _ w6).alloc (Nat.le_refl _) _
        have kR7 := Blk.by hall kR6
        have hb7w := below_on hall hb6w
        clear hb6 kA5 kB5 kR5 hb5w qA qB lA lB kX5 hall kR6 hb6w
        rcases exp_c HB.out (show (xplR x y).1 = 0 by rw [HX.out]) with ⟨hc, he⟩ | ⟨hc, he⟩ | ⟨hc, he⟩
        · rw [hc]
          have HEE := Lib.hid he
          clear hc he
          obtain ⟨rfl, rfl, rfl, rfl⟩ : (0 : Int) = EK ∧ (0 : Int) = EP ∧ (0 : Int) = EQ ∧ (0 : Int) = EC := by
            have h := (HEE.out).symm.trans HE.out
            simp only [Prod.mk.injEq] at h
            exact ⟨h.1.1, h.1.2.1, h.1.2.2, h.2⟩
          have qR := kR7.cell
          have fR := kR7.free
          have lR := kR7.lt
          go_wp2
          exact bodyPost_ret (v := .tuple #[.agg #[.int .i64 (0), .int .i64 (0), .int .i64 (0)], .int .i64 0]) (by simp [results, Tryz.results20, go_sem, *]) rfl ⟨rfl, ((hb7w.setCell (show w.heap.size ≤ w.heap.size + 2 by omega) _).setCell (show w.heap.size ≤ w.heap.size + 2 by omega) _).setCell (show w.heap.size ≤ w.heap.size + 2 by omega) _⟩
        · rw [hc]
          have HEE := Lib.hid he
          clear hc he
          obtain ⟨rfl, rfl, rfl, rfl⟩ : (0 : Int) = EK ∧ (0 : Int) = EP ∧ (0 : Int) = EQ ∧ (3 : Int) = EC := by
            have h := (HEE.out).symm.trans HE.out
            simp only [Prod.mk.injEq] at h
            exact ⟨h.1.1, h.1.2.1, h.1.2.2, h.2⟩
          have qR := kR7.cell
          have fR := kR7.free
          have lR := kR7.lt
          go_wp2
          exact bodyPost_ret (v := .tuple #[.agg #[.int .i64 (0), .int .i64 (0), .int .i64 (0)], .int .i64 3]) (by simp [results, Tryz.results20, go_sem, *]) rfl ⟨rfl, ((hb7w.setCell (show w.heap.size ≤ w.heap.size + 2 by omega) _).setCell (show w.heap.size ≤ w.heap.size + 2 by omega) _).setCell (show w.heap.size ≤ w.heap.size + 2 by omega) _⟩
        · rw [hc]
          have HEE := Lib.hid he
          clear hc he
          obtain ⟨rfl, rfl, rfl, rfl⟩ : (7 : Int) = EK ∧ (0 : Int) = EP ∧ (0 : Int) = EQ ∧ (0 : Int) = EC := by
            have h := (HEE.out).symm.trans HE.out
            simp only [Prod.mk.injEq] at h
            exact ⟨h.1.1, h.1.2.1, h.1.2.2, h.2⟩
          have qR := kR7.cell
          have fR := kR7.free
          have lR := kR7.lt
          go_wp2
          exact bodyPost_ret (v := .tuple #[.agg #[.int .i64 (7), .int .i64 (0), .int .i64 (0)], .int .i64 0]) (by simp [results, Tryz.results20, go_sem, *]) rfl ⟨rfl, ((hb7w.setCell (show w.heap.size ≤ w.heap.size + 2 by omega) _).setCell (show w.heap.size ≤ w.heap.size + 2 by omega) _).setCell (show w.heap.size ≤ w.heap.size + 2 by omega) _⟩
      · have k0 : (K != 0) = true := by simpa using hK
        have k1 : (K == 0) = false := by simpa using hK
        have HEE := Lib.hid ((exp_x HB.out (by rw [HX.out]; exact hK)).trans (by rw [HX.out]))
        obtain ⟨rfl, rfl, rfl, rfl⟩ : (K : Int) = EK ∧ (L : Int) = EP ∧ (R : Int) = EQ ∧ (0 : Int) = EC := by
          have h := (HEE.out).symm.trans HE.out
          simp only [Prod.mk.injEq] at h
          exact ⟨h.1.1, h.1.2.1, h.1.2.2, h.2⟩
        have qR := kR5.cell
        have fR := kR5.free
        have lR := kR5.lt
        go_wp2
        exact bodyPost_ret (v := .tuple #[.agg #[.int .i64 (K), .int .i64 (L), .int .i64 (R)], .int .i64 0]) (by simp [results, Tryz.results20, go_sem, *]) rfl ⟨rfl, ((hb5w.setCell (show w.heap.size ≤ w.heap.size + 2 by omega) _).setCell (show w.heap.size ≤ w.heap.size + 2 by omega) _).setCell (show w.heap.size ≤ w.heap.size + 2 by omega) _⟩
theorem intSl_len {w : World} {s : Value} {zs : List Int} (h : IntSl w s zs) : ∃ a c, s = .slice a zs.length c := by
  rcases h with ⟨a, c, rfl, rfl⟩ | ⟨b, o, c, rfl, _⟩
  · exact ⟨_, _, rfl⟩
  · exact ⟨_, _, rfl⟩
set_option maxRecDepth 100000 in
set_option maxHeartbeats 4000000 in
theorem specExp_any (x y : Nl) (v u : Value) (w : World) (h : NlV w v x) (h' : NlV w u y) (hok : ∀ p ∈ x.ps, p.ok) (hfx : Fits x.nets) (hok' : ∀ p ∈ y.ps, p.ok) (hfy : Fits y.nets) :
    Calls Tryz.prog 19 #[v, u] w fun e w' => e = .returned (.tuple #[.agg #[.int .i64 (expR x y).1.1, .int .i64 (expR x y).1.2.1, .int .i64 (expR x y).1.2.2], .int .i64 (expR x y).2]) ∧ Below w.heap.size w w' := by
  have HV := Lib.hid h
  have HU := Lib.hid h'
  have HVX := Lib.hid (fun v w h => specNl_any x v w h hok hfx)
  have HVY := Lib.hid (fun v w h => specNl_any y v w h hok' hfy)
  have HSX := Lib.hid (fun v w h => l30Small_any x v w h)
  have HSY := Lib.hid (fun v w h => l30Small_any y v w h)
  have HRX := Lib.hid (fun v w h => specRefNet_any x v w h hok hfx)
  have HRY := Lib.hid (fun v w h => specRefNet_any y v w h hok' hfy)
  have HFS := Lib.hid (fun hx hy v u w h h' => l30First_any x y v u w h h' hx hy hok hfx hok' hfy)
  obtain ⟨a1, c1, a2, c2, rfl⟩ := h.sized
  obtain ⟨b1, d1, b2, d2, rfl⟩ := h'.sized
  obtain ⟨⟨⟨EK, EP, EQ⟩, EC⟩, hE⟩ : ∃ E, expR x y = E := ⟨_, rfl⟩
  rw [hE]
  dsimp only
  have HE := Lib.hid hE
  obtain ⟨nx, hnx⟩ : ∃ N, x.nets = N := ⟨_, rfl⟩
  obtain ⟨ny, hny⟩ : ∃ N, y.nets = N := ⟨_, rfl⟩
  obtain ⟨n, hn⟩ : ∃ N, x.ds.length = N := ⟨_, rfl⟩
  obtain ⟨n2, hn2⟩ : ∃ N, y.ds.length = N := ⟨_, rfl⟩
  obtain ⟨p, hp⟩ : ∃ N, x.ps.length = N := ⟨_, rfl⟩
  obtain ⟨p2, hp2⟩ : ∃ N, y.ps.length = N := ⟨_, rfl⟩
  rw [hnx, hn, hp] at HV ⊢
  rw [hny, hn2, hp2] at HU ⊢
  have HN1 := Lib.hid hnx
  have HN2 := Lib.hid hny
  have HD1 := Lib.hid hn
  have HD2 := Lib.hid hn2
  have kA1 : Blk (((w.alloc (.cells #[.int .i64 nx, .slice a1 n c1, .slice a2 p c2] 35)).alloc (.cells #[.int .i64 ny, .slice b1 n2 d1, .slice b2 p2 d2] 35)).alloc (.cells #[.int .i64 0, .int .i64 0, .int .i64 0] 43)) w.heap.size #[.int .i64 nx, .slice a1 n c1, .slice a2 p c2] 35 := ((Blk.new _ rfl).past _).past _
  have kB1 : Blk (((w.alloc (.cells #[.int .i64 nx, .slice a1 n c1, .slice a2 p c2] 35)).alloc (.cells #[.int .i64 ny, .slice b1 n2 d1, .slice b2 p2 d2] 35)).alloc (.cells #[.int .i64 0, .int .i64 0, .int .i64 0] 43)) (w.heap.size + 1) #[.int .i64 ny, .slice b1 n2 d1, .slice b2 p2 d2] 35 := (Blk.new _ (by simp)).past _
  have kM1 : Blk (((w.alloc (.cells #[.int .i64 nx, .slice a1 n c1, .slice a2 p c2] 35)).alloc (.cells #[.int .i64 ny, .slice b1 n2 d1, .slice b2 p2 d2] 35)).alloc (.cells #[.int .i64 0, .int .i64 0, .int .i64 0] 43)) (w.heap.size + 2) #[.int .i64 0, .int .i64 0, .int .i64 0] 43 := Blk.new _ (by simp)
  have hb1w : Below w.heap.size w (((w.alloc (.cells #[.int .i64 nx, .slice a1 n c1, .slice a2 p c2] 35)).alloc (.cells #[.int .i64 ny, .slice b1 n2 d1, .slice b2 p2 d2] 35)).alloc (.cells #[.int .i64 0, .int .i64 0, .int .i64 0] 43)) := (((Below.refl _ w).alloc (Nat.le_refl _) _).alloc (by simp) _).alloc (by simp; omega) _
  clear h h' hok hok' hfx hfy hnx hny hn hn2 hp hp2 hE
  have qA := kA1.cell
  have qB := kB1.cell
  have lA := kA1.lt
  have lB := kB1.lt
  go_enter Tryz.func19, Tryz.ntmps19
  go_wp2_with fail
  generalize (((w.alloc (.cells #[.int .i64 nx, .slice a1 n c1, .slice a2 p c2] 35)).alloc (.cells #[.int .i64 ny, .slice b1 n2 d1, .slice b2 p2 d2] 35)).alloc (.cells #[.int .i64 0, .int .i64 0, .int .i64 0] 43)) = w1 at *
  refine (HVX.out _ _ (HV.out.by hb1w)).mono ?_
  rintro e w2 ⟨rfl, hb2⟩
  have kA2 := Blk.by hb2 kA1
  have kB2 := Blk.by hb2 kB1
  have kM2 := Blk.by hb2 kM1
  have hb2w := below_on hb2 hb1w
  clear hb2 kA1 kB1 kM1 hb1w qA qB lA lB
  have qA := kA2.cell
  have qB := kB2.cell
  have lA := kA2.lt
  have lB := kB2.lt
  cases hx : nlB x with
  | false =>
    obtain ⟨rfl, rfl, rfl, rfl⟩ : 0 = EK ∧ 0 = EP ∧ 0 = EQ ∧ 1 = EC := by
      have h := HE.out.symm.trans (exp_inv (x := x) (y := y) (by rw [hx]; rfl))
      simp only [Prod.mk.injEq] at h
      exact ⟨h.1.1.symm, h.1.2.1.symm, h.1.2.2.symm, h.2.symm⟩
    have qM := kM2.cell
    have fM := kM2.free
    have lM := kM2.lt
    go_wp2
    exact bodyPost_ret (v := .tuple #[.agg #[.int .i64 (0), .int .i64 (0), .int .i64 (0)], .int .i64 1]) (by simp [results, Tryz.results19, go_sem, *]) rfl ⟨rfl, ((hb2w.setCell (show w.heap.size ≤ w.heap.size + 2 by omega) _).setCell (show w.heap.size ≤ w.heap.size + 2 by omega) _).setCell (show w.heap.size ≤ w.heap.size + 2 by omega) _⟩
  | true =>
    have HXB := Lib.hid hx
    clear hx
    go_wp2_with fail
    refine (HVY.out _ _ (HU.out.by hb2w)).mono ?_
    rintro e w3 ⟨rfl, hb3⟩
    have kA3 := Blk.by hb3 kA2
    have kB3 := Blk.by hb3 kB2
    have kM3 := Blk.by hb3 kM2
    have hb3w := below_on hb3 hb2w
    clear hb3 kA2 kB2 kM2 hb2w qA qB lA lB
    have qA := kA3.cell
    have qB := kB3.cell
    have lA := kA3.lt
    have lB := kB3.lt
    cases hy : nlB y with
    | false =>
      obtain ⟨rfl, rfl, rfl, rfl⟩ : 0 = EK ∧ 0 = EP ∧ 0 = EQ ∧ 1 = EC := by
        have h := HE.out.symm.trans (exp_inv (x := x) (y := y) (by rw [hy, Bool.and_false]))
        simp only [Prod.mk.injEq] at h
        exact ⟨h.1.1.symm, h.1.2.1.symm, h.1.2.2.symm, h.2.symm⟩
      have qM := kM3.cell
      have fM := kM3.free
      have lM := kM3.lt
      go_wp2
      exact bodyPost_ret (v := .tuple #[.agg #[.int .i64 (0), .int .i64 (0), .int .i64 (0)], .int .i64 1]) (by simp [results, Tryz.results19, go_sem, *]) rfl ⟨rfl, ((hb3w.setCell (show w.heap.size ≤ w.heap.size + 2 by omega) _).setCell (show w.heap.size ≤ w.heap.size + 2 by omega) _).setCell (show w.heap.size ≤ w.heap.size + 2 by omega) _⟩
    | true =>
      have HYB := Lib.hid hy
      clear hy
      have HVV := Lib.hid (show (nlB x && nlB y) = true from by rw [HXB.out, HYB.out]; rfl)
      by_cases hnn : nx = ny
      rotate_left
      · obtain ⟨rfl, rfl, rfl, rfl⟩ : 1 = EK ∧ nx = EP ∧ ny = EQ ∧ 0 = EC := by
          have h := HE.out.symm.trans ((exp_nets HVV.out (fun q => hnn (HN1.out.symm.trans (q.trans HN2.out)))).trans (by rw [HN1.out, HN2.out]))
          simp only [Prod.mk.injEq] at h
          exact ⟨h.1.1.symm, h.1.2.1.symm, h.1.2.2.symm, h.2.symm⟩
        have qM := kM3.cell
        have fM := kM3.free
        have lM := kM3.lt
        go_wp2
        exact bodyPost_ret (v := .tuple #[.agg #[.int .i64 (1), .int .i64 (nx), .int .i64 (ny)], .int .i64 0]) (by simp [results, Tryz.results19, go_sem, *]) rfl ⟨rfl, ((hb3w.setCell (show w.heap.size ≤ w.heap.size + 2 by omega) _).setCell (show w.heap.size ≤ w.heap.size + 2 by omega) _).setCell (show w.heap.size ≤ w.heap.size + 2 by omega) _⟩
      subst hnn
      have HN := Lib.hid (HN1.out.trans HN2.out.symm)
      by_cases hdd : n = n2
      rotate_left
      · have hdd' : ¬ (n : Int) = (n2 : Int) := by omega
        obtain ⟨rfl, rfl, rfl, rfl⟩ : 2 = EK ∧ (n : Int) = EP ∧ (n2 : Int) = EQ ∧ 0 = EC := by
          have h := HE.out.symm.trans ((exp_len HVV.out HN.out (fun q => hdd (HD1.out.symm.trans (q.trans HD2.out)))).trans (by rw [HD1.out, HD2.out]))
          simp only [Prod.mk.injEq] at h
          exact ⟨h.1.1.symm, h.1.2.1.symm, h.1.2.2.symm, h.2.symm⟩
        have qM := kM3.cell
        have fM := kM3.free
        have lM := kM3.lt
        go_wp2
        exact bodyPost_ret (v := .tuple #[.agg #[.int .i64 (2), .int .i64 ((n : Int)), .int .i64 ((n2 : Int))], .int .i64 0]) (by simp [results, Tryz.results19, go_sem, *]) rfl ⟨rfl, ((hb3w.setCell (show w.heap.size ≤ w.heap.size + 2 by omega) _).setCell (show w.heap.size ≤ w.heap.size + 2 by omega) _).setCell (show w.heap.size ≤ w.heap.size + 2 by omega) _⟩
      subst hdd
      have HD := Lib.hid (HD1.out.trans HD2.out.symm)
      have HLX := Lib.hid (ref_lens HXB.out)
      have HLY := Lib.hid (ref_lens HYB.out)
      have HNM := Lib.hid (fun v u w h h' => l30Names_any x y v u w h h' (by have := nlB_facts HXB.out; omega) (by have := nlB_facts HYB.out; omega))
      have HSZ := Lib.hid (fun v u w h h' => l30Sizes_any x y v u w h h' (by have := nlB_facts HXB.out; omega) (by have := HD.out; omega))
      have HCL := Lib.hid (fun xs ys s1 s2 w h h' hl hl' => l30Color_any xs ys s1 s2 w h h' hl hl')
      go_wp2_with fail
      refine (HRX.out _ _ (HV.out.by hb3w)).mono ?_
      rintro e w4 ⟨v4, rfl, hO4, hb4⟩
      obtain ⟨g1, h1', g2, h2', rfl⟩ := hO4.co.sized
      have HC4 := Lib.hid hO4.co
      obtain ⟨P1, hP⟩ : ∃ P, (refNet x).1.1.length = P := ⟨_, rfl⟩
      obtain ⟨Q1, hQ⟩ : ∃ P, (refNet x).1.2.length = P := ⟨_, rfl⟩
      rw [hP, hQ] at HC4 ⊢
      have HP1 := Lib.hid hP
      have HQ1 := Lib.hid hQ
      have hal : Below w4.heap.size w4 (w4.alloc (.cells #[.slice g1 P1 h1', .slice g2 Q1 h2'] 81)) := (Below.refl _ w4).alloc (Nat.le_refl _) _
      have kX5 : Blk (w4.alloc (.cells #[.slice g1 P1 h1', .slice g2 Q1 h2'] 81)) w4.heap.size #[.slice g1 P1 h1', .slice g2 Q1 h2'] 81 := Blk.new _ rfl
      have kA5 := Blk.by hal (Blk.by hb4 kA3)
      have kB5 := Blk.by hal (Blk.by hb4 kB3)
      have kM5 := Blk.by hal (Blk.by hb4 kM3)
      have HC5 := Lib.hid (HC4.out.by hal)
      have hb5 := below_on hal (below_on hb4 hb3w)
      clear hal hb4 hO4 HC4 hP hQ kA3 kB3 kM3 hb3w qA qB lA lB
      have qB := kB5.cell
      have lB := kB5.lt
      go_wp2_with fail
      generalize w4.alloc (.cells #[.slice g1 P1 h1', .slice g2 Q1 h2'] 81) = w5 at *
      generalize w4.heap.size = X at *
      refine (HRY.out _ _ (HU.out.by hb5)).mono ?_
      rintro e w6 ⟨v6, rfl, hO6, hb6⟩
      obtain ⟨g3, h3', g4, h4', rfl⟩ := hO6.co.sized
      have HC6 := Lib.hid hO6.co
      obtain ⟨P2, hP⟩ : ∃ P, (refNet y).1.1.length = P := ⟨_, rfl⟩
      obtain ⟨Q2, hQ⟩ : ∃ P, (refNet y).1.2.length = P := ⟨_, rfl⟩
      rw [hP, hQ] at HC6 ⊢
      have HP2 := Lib.hid hP
      have HQ2 := Lib.hid hQ
      have hal : Below w6.heap.size w6 (w6.alloc (.cells #[.slice g3 P2 h3', .slice g4 Q2 h4'] 81)) := (Below.refl _ w6).alloc (Nat.le_refl _) _
      have kY7 : Blk (w6.alloc (.cells #[.slice g3 P2 h3', .slice g4 Q2 h4'] 81)) w6.heap.size #[.slice g3 P2 h3', .slice g4 Q2 h4'] 81 := Blk.new _ rfl
      have kX7 := Blk.by hal (Blk.by hb6 kX5)
      have kA7 := Blk.by hal (Blk.by hb6 kA5)
      have kB7 := Blk.by hal (Blk.by hb6 kB5)
      have kM7 := Blk.by hal (Blk.by hb6 kM5)
      have HC7 := Lib.hid ((HC5.out.by hb6).by hal)
      have HY7 := Lib.hid (HC6.out.by hal)
      have hb7 := below_on hal (below_on hb6 hb5)
      clear hal hb6 hO6 HC5 HC6 hP hQ kA5 kB5 kM5 kX5 hb5 qB lB
      obtain ⟨_, _, ec, m1, m2⟩ := HC7.out
      obtain ⟨_, _, ed, o1, o2⟩ := HY7.out
      simp only [Value.agg.injEq, Array.mk.injEq, List.cons.injEq, and_true] at ec ed
      obtain ⟨rfl, rfl⟩ := ec
      obtain ⟨rfl, rfl⟩ := ed
      have hlen : P1 ≤ 24 ∧ P2 ≤ 24 ∧ Q1 ≤ 24 ∧ Q2 ≤ 24 := by
        have a1 := HLX.out
        have a2 := HLY.out
        have a3 := (nlB_facts HXB.out)
        have a4 := (nlB_facts HYB.out)
        rw [HP1.out, HQ1.out] at a1
        rw [HP2.out, HQ2.out] at a2
        omega
      have M1 := Lib.hid m1
      have M2 := Lib.hid m2
      have O1 := Lib.hid o1
      have O2 := Lib.hid o2
      clear m1 m2 o1 o2 HC7 HY7
      go_upto_region 9 with fail
      generalize w6.alloc (.cells #[.slice g3 P2 h3', .slice g4 Q2 h4'] 81) = w7 at *
      generalize w6.heap.size = Y at *
      have hS : (fun w' : World => Blk w' w.heap.size #[.int .i64 nx, .slice a1 n c1, .slice a2 p c2] 35 ∧ Blk w' (w.heap.size + 1) (#[.int .i64 nx, .slice b1 n d1, .slice b2 p2 d2]) 35 ∧ Blk w' X #[.slice g1 P1 h1', .slice g2 Q1 h2'] 81 ∧ Blk w' Y #[.slice g3 P2 h3', .slice g4 Q2 h4'] 81) { w7 with drawn := w7.drawn + 1 } := ⟨kA7.drew, kB7.drew, kX7.drew, kY7.drew⟩
      refine wp_region_any (by kernel_rfl) (wpAny_of_E (S := (fun w' : World => Blk w' w.heap.size #[.int .i64 nx, .slice a1 n c1, .slice a2 p c2] 35 ∧ Blk w' (w.heap.size + 1) (#[.int .i64 nx, .slice b1 n d1, .slice b2 p2 d2]) 35 ∧ Blk w' X #[.slice g1 P1 h1', .slice g2 Q1 h2'] 81 ∧ Blk w' Y #[.slice g3 P2 h3', .slice g4 Q2 h4'] 81)) (l := 17) _ _ _ _ ?_)
      change wpAnyE _ _ _ _ _ _ _ _ _ w7.drew
      refine wpAnyE_takeL (i := 0) (v := ?_) rfl (by kernel_rfl) (fun _ _ _ h => h) (Or.inl ⟨by rfl, ?_⟩) hS ?_
      rotate_left
      · intro w hSw; (try dsimp only at hSw); have qA := hSw.1.cell; have qB := hSw.2.1.cell; have lA := hSw.1.lt; have lB := hSw.2.1.lt; have qX := hSw.2.2.1.cell; have lX := hSw.2.2.1.lt; have qY := hSw.2.2.2.cell; have lY := hSw.2.2.2.lt; clear hSw; go_simp; (try with_reducible rfl)
      try simp only [Act.put, List.setIfInBounds_toArray, List.set_cons_zero, List.set_cons_succ]
      refine wpAnyE_takeL (i := 1) (v := ?_) rfl (by kernel_rfl) (fun _ _ _ h => h) (Or.inl ⟨by rfl, ?_⟩) hS ?_
      rotate_left
      · intro w hSw; (try dsimp only at hSw); have qA := hSw.1.cell; have qB := hSw.2.1.cell; have lA := hSw.1.lt; have lB := hSw.2.1.lt; have qX := hSw.2.2.1.cell; have lX := hSw.2.2.1.lt; have qY := hSw.2.2.2.cell; have lY := hSw.2.2.2.lt; clear hSw; go_simp; (try with_reducible rfl)
      try simp only [Act.put, List.setIfInBounds_toArray, List.set_cons_zero, List.set_cons_succ]
      refine wpAnyE_takeL (i := 3) (v := ?_) rfl (by kernel_rfl) (fun _ _ _ h => h) (Or.inl ⟨by rfl, ?_⟩) hS ?_
      rotate_left
      · intro w hSw; (try dsimp only at hSw); have qA := hSw.1.cell; have qB := hSw.2.1.cell; have lA := hSw.1.lt; have lB := hSw.2.1.lt; have qX := hSw.2.2.1.cell; have lX := hSw.2.2.1.lt; have qY := hSw.2.2.2.cell; have lY := hSw.2.2.2.lt; clear hSw; go_simp; (try with_reducible rfl)
      try simp only [Act.put, List.setIfInBounds_toArray, List.set_cons_zero, List.set_cons_succ]
      refine wpAnyE_takeL (i := 4) (v := ?_) rfl (by kernel_rfl) (fun _ _ _ h => h) (Or.inl ⟨by rfl, ?_⟩) hS ?_
      rotate_left
      · intro w hSw; (try dsimp only at hSw); have qA := hSw.1.cell; have qB := hSw.2.1.cell; have lA := hSw.1.lt; have lB := hSw.2.1.lt; have qX := hSw.2.2.1.cell; have lX := hSw.2.2.1.lt; have qY := hSw.2.2.2.cell; have lY := hSw.2.2.2.lt; clear hSw; go_simp; (try with_reducible rfl)
      try simp only [Act.put, List.setIfInBounds_toArray, List.set_cons_zero, List.set_cons_succ]
      refine wpAnyE_takeL (i := 6) (v := ?_) rfl (by kernel_rfl) (fun _ _ _ h => h) (Or.inl ⟨by rfl, ?_⟩) hS ?_
      rotate_left
      · intro w hSw; (try dsimp only at hSw); have qA := hSw.1.cell; have qB := hSw.2.1.cell; have lA := hSw.1.lt; have lB := hSw.2.1.lt; have qX := hSw.2.2.1.cell; have lX := hSw.2.2.1.lt; have qY := hSw.2.2.2.cell; have lY := hSw.2.2.2.lt; clear hSw; go_simp; (try with_reducible rfl)
      try simp only [Act.put, List.setIfInBounds_toArray, List.set_cons_zero, List.set_cons_succ]
      refine wpAnyE_takeL (i := 7) (v := ?_) rfl (by kernel_rfl) (fun _ _ _ h => h) (Or.inl ⟨by rfl, ?_⟩) hS ?_
      rotate_left
      · intro w hSw; (try dsimp only at hSw); have qA := hSw.1.cell; have qB := hSw.2.1.cell; have lA := hSw.1.lt; have lB := hSw.2.1.lt; have qX := hSw.2.2.1.cell; have lX := hSw.2.2.1.lt; have qY := hSw.2.2.2.cell; have lY := hSw.2.2.2.lt; clear hSw; go_simp; (try with_reducible rfl)
      try simp only [Act.put, List.setIfInBounds_toArray, List.set_cons_zero, List.set_cons_succ]
      refine wpAnyE_takeL (i := 8) (v := ?_) rfl (by kernel_rfl) (fun _ _ _ h => h) (Or.inl ⟨by rfl, ?_⟩) hS ?_
      rotate_left
      · intro w hSw; (try dsimp only at hSw); have qA := hSw.1.cell; have qB := hSw.2.1.cell; have lA := hSw.1.lt; have lB := hSw.2.1.lt; have qX := hSw.2.2.1.cell; have lX := hSw.2.2.1.lt; have qY := hSw.2.2.2.cell; have lY := hSw.2.2.2.lt; clear hSw; go_simp; (try with_reducible rfl)
      try simp only [Act.put, List.setIfInBounds_toArray, List.set_cons_zero, List.set_cons_succ]
      refine wpAnyE_takeL (i := 9) (v := ?_) rfl (by kernel_rfl) (fun _ _ _ h => h) (Or.inl ⟨by rfl, ?_⟩) hS ?_
      rotate_left
      · intro w hSw; (try dsimp only at hSw); have qA := hSw.1.cell; have qB := hSw.2.1.cell; have lA := hSw.1.lt; have lB := hSw.2.1.lt; have qX := hSw.2.2.1.cell; have lX := hSw.2.2.1.lt; have qY := hSw.2.2.2.cell; have lY := hSw.2.2.2.lt; clear hSw; go_simp; (try with_reducible rfl)
      try simp only [Act.put, List.setIfInBounds_toArray, List.set_cons_zero, List.set_cons_succ]
      refine wpAnyE_takeL (i := 11) (v := ?_) rfl (by kernel_rfl) (fun _ _ _ h => h) (Or.inl ⟨by rfl, ?_⟩) hS ?_
      rotate_left
      · intro w hSw; (try dsimp only at hSw); have qA := hSw.1.cell; have qB := hSw.2.1.cell; have lA := hSw.1.lt; have lB := hSw.2.1.lt; have qX := hSw.2.2.1.cell; have lX := hSw.2.2.1.lt; have qY := hSw.2.2.2.cell; have lY := hSw.2.2.2.lt; clear hSw; go_simp; (try with_reducible rfl)
      try simp only [Act.put, List.setIfInBounds_toArray, List.set_cons_zero, List.set_cons_succ]
      refine wpAnyE_takeL (i := 12) (v := ?_) rfl (by kernel_rfl) (fun _ _ _ h => h) (Or.inl ⟨by rfl, ?_⟩) hS ?_
      rotate_left
      · intro w hSw; (try dsimp only at hSw); have qA := hSw.1.cell; have qB := hSw.2.1.cell; have lA := hSw.1.lt; have lB := hSw.2.1.lt; have qX := hSw.2.2.1.cell; have lX := hSw.2.2.1.lt; have qY := hSw.2.2.2.cell; have lY := hSw.2.2.2.lt; clear hSw; go_simp; (try with_reducible rfl)
      try simp only [Act.put, List.setIfInBounds_toArray, List.set_cons_zero, List.set_cons_succ]
      refine wpAnyE_takeL (i := 13) (v := ?_) rfl (by kernel_rfl) (fun _ _ _ h => h) (Or.inl ⟨by rfl, ?_⟩) hS ?_
      rotate_left
      · intro w hSw; (try dsimp only at hSw); have qA := hSw.1.cell; have qB := hSw.2.1.cell; have lA := hSw.1.lt; have lB := hSw.2.1.lt; have qX := hSw.2.2.1.cell; have lX := hSw.2.2.1.lt; have qY := hSw.2.2.2.cell; have lY := hSw.2.2.2.lt; clear hSw; go_simp; (try with_reducible rfl)
      try simp only [Act.put, List.setIfInBounds_toArray, List.set_cons_zero, List.set_cons_succ]
      refine wpAnyE_takeL (i := 14) (v := ?_) rfl (by kernel_rfl) (fun _ _ _ h => h) (Or.inl ⟨by rfl, ?_⟩) hS ?_
      rotate_left
      · intro w hSw; (try dsimp only at hSw); have qA := hSw.1.cell; have qB := hSw.2.1.cell; have lA := hSw.1.lt; have lB := hSw.2.1.lt; have qX := hSw.2.2.1.cell; have lX := hSw.2.2.1.lt; have qY := hSw.2.2.2.cell; have lY := hSw.2.2.2.lt; clear hSw; go_simp; (try with_reducible rfl)
      try simp only [Act.put, List.setIfInBounds_toArray, List.set_cons_zero, List.set_cons_succ]
      clear hS
      refine wpAnyE_oneL (k := 2) (by kernel_rfl) rfl (fun K hK => ?_)
      go_simp
      go_at_call 54
      refine (HNM.out _ _ _ ((HV.out.by hb7).by (below_of_drewN w7 1)) ((HU.out.by hb7).by (below_of_drewN w7 1))).mono ?_
      rintro e w8 ⟨rfl, hb8⟩
      have hb8' : Below w7.heap.size w7 w8 := below_on hb8 (below_of_drewN w7 1)
      have kA8 := Blk.by hb8' kA7
      have kB8 := Blk.by hb8' kB7
      have kM8 := Blk.by hb8' kM7
      have kX8 := Blk.by hb8' kX7
      have kY8 := Blk.by hb8' kY7
      have hb8w := below_on hb8' hb7
      have hM8 := Lib.hid (show IntSl w8 _ _ ∧ IntSl w8 _ _ ∧ IntSl w8 _ _ ∧ IntSl w8 _ _ from ⟨M1.out.by hb8', M2.out.by hb8', O1.out.by hb8', O2.out.by hb8'⟩)
      obtain ⟨D1, hD⟩ : ∃ D, namD x.ps y.ps = D := ⟨_, rfl⟩
      rw [hD]
      have HD1 := Lib.hid hD
      clear hb8 hb8' hD kA7 kB7 kM7 kX7 kY7 hb7 M1 M2 O1 O2
      refine hK.out _ _ (fun _ => ⟨kA8, kB8, kX8, kY8⟩) ?_
      try simp only [Act.put, List.setIfInBounds_toArray, List.set_cons_zero, List.set_cons_succ]
      refine wpAnyE_oneL (k := 5) (by kernel_rfl) rfl (fun K hK => ?_)
      go_simp
      go_at_call 55
      refine (HSZ.out _ _ _ (HV.out.by hb8w) (HU.out.by hb8w)).mono ?_
      rintro e w9 ⟨rfl, hb9⟩
      have kA9 := Blk.by hb9 kA8
      have kB9 := Blk.by hb9 kB8
      have kM9 := Blk.by hb9 kM8
      have kX9 := Blk.by hb9 kX8
      have kY9 := Blk.by hb9 kY8
      have hb9w := below_on hb9 hb8w
      have hM9 := Lib.hid (show IntSl w9 _ _ ∧ IntSl w9 _ _ ∧ IntSl w9 _ _ ∧ IntSl w9 _ _ from ⟨hM8.out.1.by hb9, hM8.out.2.1.by hb9, hM8.out.2.2.1.by hb9, hM8.out.2.2.2.by hb9⟩)
      obtain ⟨D2, hD⟩ : ∃ D, sizD x.ds y.ds = D := ⟨_, rfl⟩
      rw [hD]
      have HD2 := Lib.hid hD
      clear hb9 hD kA8 kB8 kM8 kX8 kY8 hb8w hM8
      refine hK.out _ _ (fun _ => ⟨kA9, kB9, kX9, kY9⟩) ?_
      try simp only [Act.put, List.setIfInBounds_toArray, List.set_cons_zero, List.set_cons_succ]
      refine wpAnyE_oneL (k := 10) (by kernel_rfl) rfl (fun K hK => ?_)
      go_simp
      go_at_call 56
      refine (HCL.out _ _ _ _ _ hM9.out.1 hM9.out.2.2.1 (by rw [HP1.out]; omega) (by rw [HP2.out]; omega)).mono ?_
      rintro e w10 ⟨rfl, rfl⟩
      obtain ⟨D3, hD⟩ : ∃ D, colD (refNet x).1.1 (refNet y).1.1 = D := ⟨_, rfl⟩
      rw [hD]
      have HD3 := Lib.hid hD
      clear hD
      refine hK.out _ _ (fun _ => ⟨kA9, kB9, kX9, kY9⟩) ?_
      try simp only [Act.put, List.setIfInBounds_toArray, List.set_cons_zero, List.set_cons_succ]
      refine wpAnyE_oneL (k := 15) (by kernel_rfl) rfl (fun K hK => ?_)
      go_simp
      go_at_call 56
      refine (HCL.out _ _ _ _ _ hM9.out.2.1 hM9.out.2.2.2 (by rw [HQ1.out]; omega) (by rw [HQ2.out]; omega)).mono ?_
      rintro e w10 ⟨rfl, rfl⟩
      obtain ⟨D4, hD⟩ : ∃ D, colD (refNet x).1.2 (refNet y).1.2 = D := ⟨_, rfl⟩
      rw [hD]
      have HD4 := Lib.hid hD
      clear hD
      have HFL := Lib.hid (show fndL x y = [D1, D2, D3, D4] from by unfold fndL; rw [HD1.out, HD2.out, HD3.out, HD4.out])
      clear HD1 HD2 HD3 HD4 hM9
      refine hK.out _ _ (fun _ => ⟨kA9, kB9, kX9, kY9⟩) ?_
      try simp only [Act.put, List.setIfInBounds_toArray, List.set_cons_zero, List.set_cons_succ]
      refine wpAnyE_oneL (k := 16) (by kernel_rfl) rfl (fun K hK => ?_)
      go_simp
      have hal : Below w9.heap.size w9 (w9.alloc (.cells #[.int .i64 D1, .int .i64 D2, .int .i64 D3, .int .i64 D4] 2)) := (Below.refl _ w9).alloc (Nat.le_refl _) _
      have kG : Blk (w9.alloc (.cells #[.int .i64 D1, .int .i64 D2, .int .i64 D3, .int .i64 D4] 2)) w9.heap.size #[.int .i64 D1, .int .i64 D2, .int .i64 D3, .int .i64 D4] 2 := Blk.new _ rfl
      have kA := Blk.by hal kA9
      have kB := Blk.by hal kB9
      have kM := Blk.by hal kM9
      have kX := Blk.by hal kX9
      have kY := Blk.by hal kY9
      have hbw := below_on hal hb9w
      clear hal kA9 kB9 kM9 kX9 kY9 hb9w
      refine hK.out _ _ (fun _ => ⟨kA, kB, kX, kY⟩) ?_
      try simp only [Act.put, List.setIfInBounds_toArray, List.set_cons_zero, List.set_cons_succ]
      generalize w9.alloc (.cells #[.int .i64 D1, .int .i64 D2, .int .i64 D3, .int .i64 D4] 2) = wg at *
      generalize w9.heap.size = G at *
      clear kX kY
      refine wpAnyE_oneL (k := 17) (by kernel_rfl) rfl (fun K hK => ?_)
      go_simp
      refine hK.out _ _ (fun h => absurd rfl h) ?_
      refine wpAnyE_done (by kernel_rfl) ?_ _
      go_wp2
      have hMl := kM.lt
      go_loopw [11] (fun iv wr => ∃ i : Nat, i ≤ 4 ∧ iv = .int .i64 (i : Int) ∧ Hid (∀ j : Nat, j < i → [D1, D2, D3, D4][j]? = some (-1)) ∧ wg = wr) (fun iv _ => 4 - (intOf iv).toNat)
      case atStart => exact ⟨0, Nat.zero_le _, rfl, Lib.hid (by intro j h; omega), rfl⟩
      case round =>
        obtain ⟨i, hi, rfl, HI, rfl⟩ := hrel
        by_cases hit : i < 4
        · obtain ⟨z, hz⟩ : ∃ z, [D1, D2, D3, D4][i]? = some z := ⟨_, List.getElem?_eq_getElem (by simpa using hit)⟩
          have qG := (kG.cell i).trans (four_at hz)
          have lG := kG.lt
          have i1 : (i : Int) < 4 := by omega
          have i2 : decide (i < 4) = true := decide_eq_true hit
          have HZ := Lib.hid hz
          have hrg := fnd_rng x y (i := i) (z := z) (by rw [HFL.out]; exact hz)
          clear hz
          by_cases hz0 : 0 ≤ z
          · have hz1 : decide (0 ≤ z) = true := decide_eq_true hz0
            have hz2 : ¬ z < 0 := by omega
            obtain ⟨rfl, rfl, rfl, rfl⟩ : 3 + (i : Int) = EK ∧ z = EP ∧ 0 = EQ ∧ 0 = EC := by
              have h := HE.out.symm.trans (exp_found HVV.out HN.out HD.out (i := i) (z := z) (by rw [HFL.out]; exact HZ.out) hz0 (fun j hj => by rw [HFL.out]; exact HI.out j hj))
              simp only [Prod.mk.injEq] at h
              exact ⟨h.1.1.symm, h.1.2.1.symm, h.1.2.2.symm, h.2.symm⟩
            have qM := kM.cell
            have fM := kM.free
            have lM := kM.lt
            go_wp2
            exact bodyPost_ret (v := .tuple #[.agg #[.int .i64 (3 + (i : Int)), .int .i64 (z), .int .i64 (0)], .int .i64 0]) (by simp [results, Tryz.results19, go_sem, *]) rfl ⟨rfl, ((hbw.setCell (show w.heap.size ≤ w.heap.size + 2 by omega) _).setCell (show w.heap.size ≤ w.heap.size + 2 by omega) _).setCell (show w.heap.size ≤ w.heap.size + 2 by omega) _⟩
          · have hz1 : decide (0 ≤ z) = false := decide_eq_false hz0
            have hz2 : z < 0 := by omega
            have hzm : z = -1 := by omega
            have HI2 : Hid (∀ j : Nat, j < i + 1 → [D1, D2, D3, D4][j]? = some (-1)) := Lib.hid (by
              intro j hj
              by_cases hji : j = i
              · subst hji; rw [HZ.out, hzm]
              · exact HI.out j (by omega))
            clear HI hzm hrg HZ
            go_wp2
            exact ⟨⟨i + 1, by omega, by go_num, HI2, (by first | trivial | rfl)⟩, by simp [intOf]; omega⟩
        · obtain rfl : 4 = i := by omega
          have i1 : ¬ (4 : Int) < 4 := by omega
          have HLT := Lib.hid (show ∀ j < 4, (fndL x y)[j]? = some (-1) from fun j hj => by rw [HFL.out]; exact HI.out j hj)
          clear HI hit hi
          have qA := kA.cell
          have qB := kB.cell
          have lA := kA.lt
          have lB := kB.lt
          go_wp2_with fail
          refine (HSX.out _ _ (HV.out.by hbw)).mono ?_
          rintro e w4 ⟨rfl, hb4⟩
          have kA4 := Blk.by hb4 kA
          have kB4 := Blk.by hb4 kB
          have kM4 := Blk.by hb4 kM
          have hb4w := below_on hb4 hbw
          clear hb4 kA kB kM hbw qA qB lA lB
          have qA := kA4.cell
          have qB := kB4.cell
          have lA := kA4.lt
          have lB := kB4.lt
          cases hx : smlB x with
          | false =>
            obtain ⟨rfl, rfl, rfl, rfl⟩ : 0 = EK ∧ 0 = EP ∧ 0 = EQ ∧ 3 = EC := by
              have h := HE.out.symm.trans (exp_big HVV.out HN.out HD.out HLT.out (by rw [hx]; rfl))
              simp only [Prod.mk.injEq] at h
              exact ⟨h.1.1.symm, h.1.2.1.symm, h.1.2.2.symm, h.2.symm⟩
            have qM := kM4.cell
            have fM := kM4.free
            have lM := kM4.lt
            go_wp2
            exact bodyPost_ret (v := .tuple #[.agg #[.int .i64 (0), .int .i64 (0), .int .i64 (0)], .int .i64 3]) (by simp [results, Tryz.results19, go_sem, *]) rfl ⟨rfl, ((hb4w.setCell (show w.heap.size ≤ w.heap.size + 2 by omega) _).setCell (show w.heap.size ≤ w.heap.size + 2 by omega) _).setCell (show w.heap.size ≤ w.heap.size + 2 by omega) _⟩
          | true =>
            have HXS := Lib.hid hx
            clear hx
            go_wp2_with fail
            refine (HSY.out _ _ (HU.out.by hb4w)).mono ?_
            rintro e w5 ⟨rfl, hb5⟩
            have kA5 := Blk.by hb5 kA4
            have kB5 := Blk.by hb5 kB4
            have kM5 := Blk.by hb5 kM4
            have hb5w := below_on hb5 hb4w
            clear hb5 kA4 kB4 kM4 hb4w qA qB lA lB
            have qA := kA5.cell
            have qB := kB5.cell
            have lA := kA5.lt
            have lB := kB5.lt
            cases hy : smlB y with
            | false =>
              obtain ⟨rfl, rfl, rfl, rfl⟩ : 0 = EK ∧ 0 = EP ∧ 0 = EQ ∧ 3 = EC := by
                have h := HE.out.symm.trans (exp_big HVV.out HN.out HD.out HLT.out (by rw [hy, Bool.and_false]))
                simp only [Prod.mk.injEq] at h
                exact ⟨h.1.1.symm, h.1.2.1.symm, h.1.2.2.symm, h.2.symm⟩
              have qM := kM5.cell
              have fM := kM5.free
              have lM := kM5.lt
              go_wp2
              exact bodyPost_ret (v := .tuple #[.agg #[.int .i64 (0), .int .i64 (0), .int .i64 (0)], .int .i64 3]) (by simp [results, Tryz.results19, go_sem, *]) rfl ⟨rfl, ((hb5w.setCell (show w.heap.size ≤ w.heap.size + 2 by omega) _).setCell (show w.heap.size ≤ w.heap.size + 2 by omega) _).setCell (show w.heap.size ≤ w.heap.size + 2 by omega) _⟩
            | true =>
              have HSS := Lib.hid (show (smlB x && smlB y) = true from by rw [HXS.out, hy]; rfl)
              clear hy
              have HF := Lib.hid (HFS.out HXB.out HYB.out)
              go_wp2_with fail
              refine (HF.out _ _ _ (HV.out.by hb5w) (HU.out.by hb5w)).mono ?_
              rintro e w6 ⟨v6, rfl, hM6, hb6⟩
              obtain ⟨s61, s62, _, _, _, _, rfl, hk61, hk62, _⟩ := hM6
              obtain ⟨e1, f1, rfl⟩ := intSl_len hk61.sl
              obtain ⟨e2, f2, rfl⟩ := intSl_len hk62.sl
              obtain ⟨q1, hq1⟩ : ∃ q, (fstR x y).1.length = q := ⟨_, rfl⟩
              obtain ⟨q2, hq2⟩ : ∃ q, (fstR x y).2.length = q := ⟨_, rfl⟩
              rw [hq1, hq2]
              clear hq1 hq2 hk61 hk62
              have hal : Below w6.heap.size w6 (w6.alloc (.cells #[.slice e1 q1 f1, .slice e2 q2 f2] 29)) := (Below.refl _ w6).alloc (Nat.le_refl _) _
              have kM7 := Blk.by hal (Blk.by hb6 kM5)
              have hb7w := below_on hal (below_on hb6 hb5w)
              clear hal hb6 kA5 kB5 kM5 hb5w qA qB lA lB
              have hend := exp_end HVV.out HN.out HD.out HLT.out HSS.out
              cases hs : (cmpF x y).isSome with
              | false =>
                obtain ⟨rfl, rfl, rfl, rfl⟩ : 7 = EK ∧ 0 = EP ∧ 0 = EQ ∧ 0 = EC := by
                  have h := HE.out.symm.trans (hend.trans (by rw [hs]; try rfl))
                  simp only [Prod.mk.injEq] at h
                  exact ⟨h.1.1.symm, h.1.2.1.symm, h.1.2.2.symm, h.2.symm⟩
                have qM := kM7.cell
                have fM := kM7.free
                have lM := kM7.lt
                go_wp2
                exact bodyPost_ret (v := .tuple #[.agg #[.int .i64 (7), .int .i64 (0), .int .i64 (0)], .int .i64 0]) (by simp [results, Tryz.results19, go_sem, *]) rfl ⟨rfl, ((hb7w.setCell (show w.heap.size ≤ w.heap.size + 2 by omega) _).setCell (show w.heap.size ≤ w.heap.size + 2 by omega) _).setCell (show w.heap.size ≤ w.heap.size + 2 by omega) _⟩
              | true =>
                obtain ⟨rfl, rfl, rfl, rfl⟩ : 0 = EK ∧ 0 = EP ∧ 0 = EQ ∧ 0 = EC := by
                  have h := HE.out.symm.trans (hend.trans (by rw [hs]; try rfl))
                  simp only [Prod.mk.injEq] at h
                  exact ⟨h.1.1.symm, h.1.2.1.symm, h.1.2.2.symm, h.2.symm⟩
                have qM := kM7.cell
                have fM := kM7.free
                have lM := kM7.lt
                go_wp2
                exact bodyPost_ret (v := .tuple #[.agg #[.int .i64 (0), .int .i64 (0), .int .i64 (0)], .int .i64 0]) (by simp [results, Tryz.results19, go_sem, *]) rfl ⟨rfl, ((hb7w.setCell (show w.heap.size ≤ w.heap.size + 2 by omega) _).setCell (show w.heap.size ≤ w.heap.size + 2 by omega) _).setCell (show w.heap.size ≤ w.heap.size + 2 by omega) _⟩
end Go.Proofs.YtifbffianbgeaaaGreat
namespace Go.Proofs.YtifbffianbgeaaaGreat.fnExactExplainMismatch
open Go.RowKit Go.Proofs.YtifbffianbgeaaaGreat
set_option linter.unusedVariables false
set_option linter.unusedSimpArgs false
theorem eqMm_refl (k p q : Int) (w : World) : Calls Tryz.prog 21 #[.agg #[.int .i64 k, .int .i64 p, .int .i64 q], .agg #[.int .i64 k, .int .i64 p, .int .i64 q]] w fun e w' => e = .returned (.bool true) ∧ Below w.heap.size w w' := by
  have e1 : (k != k) = false := by simp
  have e2 : (p != p) = false := by simp
  have e3 : (q != q) = false := by simp
  go_enter Tryz.func21, Tryz.ntmps21
  go_wp2
  go_ret
  exact ⟨rfl, blwT⟩
set_option maxRecDepth 100000 in
set_option maxHeartbeats 8000000 in
theorem walk (v0 : Value) (v1 : Value) (w : World) (x : Nl) (w0 : IsNlV w v0 x) (z : Nl) (w1 : IsNlV w v1 z) :
    Calls Tryz.prog 4 #[v0, v1] w fun e w' => e = .returned (.bool true) ∧ Below w.heap.size w w' := by
  obtain ⟨hV0, h0f, h0d, h0p⟩ := w0
  obtain ⟨hV1, h1f, h1d, h1p⟩ := w1
  have HSZ0 := fun w h => szNl_any v0 x 1048576 w h h0p (by omega) (by omega)
  by_cases hbig : (1048576 : Int) < nlSize x.ds x.ps
  · simp only [if_pos hbig] at HSZ0
    have HZ0 := Lib.hid HSZ0
    clear HSZ0 hbig
    have HV0 := Lib.hid hV0
    have HV1 := Lib.hid hV1
    obtain ⟨a0, c0, a0d, c0d, rfl⟩ := hV0.sized
    obtain ⟨a1, c1, a1d, c1d, rfl⟩ := hV1.sized
    clear hV0 hV1
    go_enter Tryz.func4, Tryz.ntmps4
    go_wp2_with fail
    refine (HZ0.out _ (HV0.out.by blwT)).mono ?_
    rintro e s0 ⟨rfl, hb⟩
    go_wp2
    go_ret
    exact ⟨rfl, blwT⟩
  simp only [if_neg hbig] at HSZ0
  obtain ⟨n0a, n0b, n0c⟩ := nlSize_bounds hbig
  have hsn0 : 0 ≤ nlSize x.ds x.ps := by exact nlSize_nonneg _
  obtain ⟨l0, hl0⟩ : ∃ l : Int, (1048576 : Int) - nlSize x.ds x.ps = l := ⟨_, rfl⟩
  have hl0a : 0 ≤ l0 := by omega
  have hl0b : l0 ≤ 1048576 := by omega
  rw [hl0] at HSZ0
  have HZ0 := Lib.hid HSZ0
  clear HSZ0 hbig hl0 hsn0
  have HSZ1 := fun w h => szNl_any v1 z l0 w h h1p (by omega) (by omega)
  by_cases hbig : l0 < nlSize z.ds z.ps
  · simp only [if_pos hbig] at HSZ1
    have HZ1 := Lib.hid HSZ1
    clear HSZ1 hbig
    have HV0 := Lib.hid hV0
    have HV1 := Lib.hid hV1
    obtain ⟨a0, c0, a0d, c0d, rfl⟩ := hV0.sized
    obtain ⟨a1, c1, a1d, c1d, rfl⟩ := hV1.sized
    clear hV0 hV1
    go_enter Tryz.func4, Tryz.ntmps4
    go_wp2_with fail
    refine (HZ0.out _ (HV0.out.by blwT)).mono ?_
    rintro e s0 ⟨rfl, hb⟩
    have kA0 : Blk s0 (w.heap.size) #[.int .i64 x.nets, .slice a0 x.ds.length c0, .slice a0d x.ps.length c0d] 25 := blkT
    have kA1 : Blk s0 (w.heap.size + 1) #[.int .i64 z.nets, .slice a1 z.ds.length c1, .slice a1d z.ps.length c1d] 25 := blkT
    have hW : Below w.heap.size w s0 := blwT
    clear hb 
    have cA0 := kA0.cell
    have cA1 := kA1.cell
    go_wp2_with fail
    refine (HZ1.out _ (HV1.out.by hW)).mono ?_
    rintro e s1 ⟨rfl, hb⟩
    go_wp2
    go_ret
    exact ⟨rfl, blwT⟩
  simp only [if_neg hbig] at HSZ1
  obtain ⟨n1a, n1b, n1c⟩ := nlSize_bounds (x := z) (by omega)
  have hsn1 : 0 ≤ nlSize z.ds z.ps := by exact nlSize_nonneg _
  obtain ⟨l1, hl1⟩ : ∃ l : Int, (l0 : Int) - nlSize z.ds z.ps = l := ⟨_, rfl⟩
  have hl1a : 0 ≤ l1 := by omega
  have hl1b : l1 ≤ 1048576 := by omega
  rw [hl1] at HSZ1
  have HZ1 := Lib.hid HSZ1
  clear HSZ1 hbig hl1 hsn1
  have HTO0 := Lib.hid (fun v w h => toNetlist_nl v x w h n0a n0b n0c)
  have HEQ0 := Lib.hid (fun v1 v2 w h1 h2 => eqNetlist_refl v1 v2 x w h1 h2)
  have HTO1 := Lib.hid (fun v w h => toNetlist_nl v z w h n1a n1b n1c)
  have HEQ1 := Lib.hid (fun v1 v2 w h1 h2 => eqNetlist_refl v1 v2 z w h1 h2)
  have HSP := Lib.hid (fun u0 u1 w h0 h1 => specExp_any x z u0 u1 w h0 h1 h0p h0f h1p h1f)
  have HIM := Lib.hid (fun u0 u1 w h0 h1 => implExp_any x z u0 u1 w h0 h1 h0p h0f h1p h1f)
  obtain ⟨⟨⟨EK, EP, EQ⟩, EC⟩, hE⟩ : ∃ E, expR x z = E := ⟨_, rfl⟩
  rw [hE] at HSP HIM
  clear hE
  have eC : (EC != EC) = false := by simp
  have HV0 := Lib.hid hV0
  have HV1 := Lib.hid hV1
  obtain ⟨a0, c0, a0d, c0d, rfl⟩ := hV0.sized
  obtain ⟨a1, c1, a1d, c1d, rfl⟩ := hV1.sized
  clear hV0 hV1 n0a n0b n0c h0f h0d h0p n1a n1b n1c h1f h1d h1p
  go_enter Tryz.func4, Tryz.ntmps4
  go_wp2_with fail
  refine (HZ0.out _ (HV0.out.by blwT)).mono ?_
  rintro e s0 ⟨rfl, hb⟩
  have kA0 : Blk s0 (w.heap.size) #[.int .i64 x.nets, .slice a0 x.ds.length c0, .slice a0d x.ps.length c0d] 25 := blkT
  have kA1 : Blk s0 (w.heap.size + 1) #[.int .i64 z.nets, .slice a1 z.ds.length c1, .slice a1d z.ps.length c1d] 25 := blkT
  have hW : Below w.heap.size w s0 := blwT
  clear hb 
  have cA0 := kA0.cell
  have cA1 := kA1.cell
  go_wp2_with fail
  refine (HZ1.out _ (HV1.out.by hW)).mono ?_
  rintro e s1 ⟨rfl, hb⟩
  replace kA0 := Blk.by hb kA0
  replace kA1 := Blk.by hb kA1
  replace hW := below_on hb hW
  clear hb cA0 cA1
  have cA0 := kA0.cell
  have cA1 := kA1.cell
  clear cA0 cA1
  go_upto_region 8 with fail
  go_cut [6, 7] (fun s6 s7 wx => ∃ (Wp : Nat), s6 = .pointer (some ⟨Wp, 0, none⟩) ∧ s7 = .int .i64 EC ∧ Blk wx Wp #[.int .i64 EK, .int .i64 EP, .int .i64 EQ] 43 ∧ Blk wx (w.heap.size) #[.int .i64 x.nets, .slice a0 x.ds.length c0, .slice a0d x.ps.length c0d] 25 ∧ Blk wx (w.heap.size + 1) #[.int .i64 z.nets, .slice a1 z.ds.length c1, .slice a1d z.ps.length c1d] 25 ∧ Below w.heap.size w wx)
  case first =>
    have qA0 := kA0.cell
    have lA0 := kA0.lt
    have qA1 := kA1.cell
    have lA1 := kA1.lt
    go_region_held3 (fun w' => (Blk w' (w.heap.size) #[.int .i64 x.nets, .slice a0 x.ds.length c0, .slice a0d x.ps.length c0d] 25 ∧ ∀ o, w'.cell? ⟨w.heap.size, o, none⟩ = (#[.int .i64 x.nets, .slice a0 x.ds.length c0, .slice a0d x.ps.length c0d] : Array Value)[o]?) ∧ (Blk w' (w.heap.size + 1) #[.int .i64 z.nets, .slice a1 z.ds.length c1, .slice a1d z.ps.length c1d] 25 ∧ ∀ o, w'.cell? ⟨w.heap.size + 1, o, none⟩ = (#[.int .i64 z.nets, .slice a1 z.ds.length c1, .slice a1d z.ps.length c1d] : Array Value)[o]?) ∧ Below w.heap.size w w') (((try (obtain ⟨⟨hS0, _⟩, ⟨hS1, _⟩, hSB⟩ := hHeld)); refine ⟨Blk.both ?_, Blk.both ?_, ?_⟩ <;> first | ((repeat (first | (with_reducible assumption) | (with_reducible refine Blk.drewN ?_ _) | (with_reducible refine Blk.drew ?_) | ((with_reducible refine Blk.new _ ?_); focus (first | omega | (simp; done) | (simp; omega))) | (with_reducible refine Blk.past ?_ _) | ((with_reducible refine Blk.apart ?_ _ _ _ ?_); rotate_left; focus (first | omega | (simp; done) | (simp; omega))) | (with_reducible refine Blk.by (by assumption) ?_))); done) | ((repeat (first | (with_reducible exact Below.refl _ _) | (with_reducible refine below_drewN ?_ _) | (with_reducible refine Below.drew ?_) | (with_reducible refine below_al ?_ _) | (with_reducible refine below_on (by assumption) ?_) | ((with_reducible refine Below.setCell ?_ ?_ _); rotate_left; focus (first | omega | (simp; done) | (simp; omega))) | (with_reducible assumption))); done)))
      (first | (go_at_call_of 12 (Value.agg #[Value.int IntKind.i64 x.nets, Value.slice a0 x.ds.length c0, Value.slice a0d x.ps.length c0d]); refine (HTO0.out _ _ (HV0.out.by blwT)).mono ?_; rintro e t10 ⟨v10_, rfl, hN, hb10⟩; have HN10 := Lib.hid hN; obtain ⟨a10, c10, a10d, c10d, rfl⟩ := hN.sized; clear hN; have hz10 := hb10.size; (try simp only [World.size_alloc, size_drewN, World.size_drew] at hz10); (try (refine with_fact (p := Blk t10 (s1.heap.size) #[.int .i64 0, .int .i64 0, .int .i64 0] 43) (Blk.by hb10 ?_) ?_; (focus ((repeat (first | (with_reducible assumption) | (with_reducible refine Blk.drewN ?_ _) | (with_reducible refine Blk.drew ?_) | ((with_reducible refine Blk.new _ ?_); focus (first | omega | (simp; done) | (simp; omega))) | (with_reducible refine Blk.past ?_ _) | ((with_reducible refine Blk.apart ?_ _ _ _ ?_); rotate_left; focus (first | omega | (simp; done) | (simp; omega))) | (with_reducible refine Blk.by (by assumption) ?_))); done)); intro kzt10_0; have czt10_0 := kzt10_0.cell; have fzt10_0 := kzt10_0.free; have lzt10_0 := kzt10_0.lt))) | (go_at_call_of 12 (Value.agg #[Value.int IntKind.i64 z.nets, Value.slice a1 z.ds.length c1, Value.slice a1d z.ps.length c1d]); refine (HTO1.out _ _ (HV1.out.by blwT)).mono ?_; rintro e t11 ⟨v11_, rfl, hN, hb11⟩; have HN11 := Lib.hid hN; obtain ⟨a11, c11, a11d, c11d, rfl⟩ := hN.sized; clear hN; have hz11 := hb11.size; (try simp only [World.size_alloc, size_drewN, World.size_drew] at hz11); (try (refine with_fact (p := Blk t11 (s1.heap.size) #[.int .i64 0, .int .i64 0, .int .i64 0] 43) (Blk.by hb11 ?_) ?_; (focus ((repeat (first | (with_reducible assumption) | (with_reducible refine Blk.drewN ?_ _) | (with_reducible refine Blk.drew ?_) | ((with_reducible refine Blk.new _ ?_); focus (first | omega | (simp; done) | (simp; omega))) | (with_reducible refine Blk.past ?_ _) | ((with_reducible refine Blk.apart ?_ _ _ _ ?_); rotate_left; focus (first | omega | (simp; done) | (simp; omega))) | (with_reducible refine Blk.by (by assumption) ?_))); done)); intro kzt11_0; have czt11_0 := kzt11_0.cell; have fzt11_0 := kzt11_0.free; have lzt11_0 := kzt11_0.lt)); (try (refine with_fact (p := Blk t11 (t10.heap.size) #[.int .i64 0, .int .i64 0, .int .i64 0] 43) (Blk.by hb11 ?_) ?_; (focus ((repeat (first | (with_reducible assumption) | (with_reducible refine Blk.drewN ?_ _) | (with_reducible refine Blk.drew ?_) | ((with_reducible refine Blk.new _ ?_); focus (first | omega | (simp; done) | (simp; omega))) | (with_reducible refine Blk.past ?_ _) | ((with_reducible refine Blk.apart ?_ _ _ _ ?_); rotate_left; focus (first | omega | (simp; done) | (simp; omega))) | (with_reducible refine Blk.by (by assumption) ?_))); done)); intro kzt11_1; have czt11_1 := kzt11_1.cell; have fzt11_1 := kzt11_1.free; have lzt11_1 := kzt11_1.lt))) | (go_at_call 19; refine (HSP.out _ _ _ (HN10.out.by blwT) (HN11.out.by blwT)).mono ?_; rintro e t20 ⟨rfl, hb20⟩; have hz20 := hb20.size; (try simp only [World.size_alloc, size_drewN, World.size_drew] at hz20); (try (refine with_fact (p := Blk t20 (s1.heap.size) #[.int .i64 0, .int .i64 0, .int .i64 0] 43) (Blk.by hb20 ?_) ?_; (focus ((repeat (first | (with_reducible assumption) | (with_reducible refine Blk.drewN ?_ _) | (with_reducible refine Blk.drew ?_) | ((with_reducible refine Blk.new _ ?_); focus (first | omega | (simp; done) | (simp; omega))) | (with_reducible refine Blk.past ?_ _) | ((with_reducible refine Blk.apart ?_ _ _ _ ?_); rotate_left; focus (first | omega | (simp; done) | (simp; omega))) | (with_reducible refine Blk.by (by assumption) ?_))); done)); intro kzt20_0; have czt20_0 := kzt20_0.cell; have fzt20_0 := kzt20_0.free; have lzt20_0 := kzt20_0.lt)); (try (refine with_fact (p := Blk t20 (t10.heap.size) #[.int .i64 0, .int .i64 0, .int .i64 0] 43) (Blk.by hb20 ?_) ?_; (focus ((repeat (first | (with_reducible assumption) | (with_reducible refine Blk.drewN ?_ _) | (with_reducible refine Blk.drew ?_) | ((with_reducible refine Blk.new _ ?_); focus (first | omega | (simp; done) | (simp; omega))) | (with_reducible refine Blk.past ?_ _) | ((with_reducible refine Blk.apart ?_ _ _ _ ?_); rotate_left; focus (first | omega | (simp; done) | (simp; omega))) | (with_reducible refine Blk.by (by assumption) ?_))); done)); intro kzt20_1; have czt20_1 := kzt20_1.cell; have fzt20_1 := kzt20_1.free; have lzt20_1 := kzt20_1.lt)); (try (refine with_fact (p := Blk t20 (t11.heap.size) #[.int .i64 0, .int .i64 0, .int .i64 0] 43) (Blk.by hb20 ?_) ?_; (focus ((repeat (first | (with_reducible assumption) | (with_reducible refine Blk.drewN ?_ _) | (with_reducible refine Blk.drew ?_) | ((with_reducible refine Blk.new _ ?_); focus (first | omega | (simp; done) | (simp; omega))) | (with_reducible refine Blk.past ?_ _) | ((with_reducible refine Blk.apart ?_ _ _ _ ?_); rotate_left; focus (first | omega | (simp; done) | (simp; omega))) | (with_reducible refine Blk.by (by assumption) ?_))); done)); intro kzt20_2; have czt20_2 := kzt20_2.cell; have fzt20_2 := kzt20_2.free; have lzt20_2 := kzt20_2.lt))))
    all_goals (go_wp2_with fail; go_meet)
    all_goals
      refine ⟨_, rfl, rfl, ?_, ?_, ?_, ?_⟩
      · (first | (with_reducible exact Blk.new _ rfl) | ((with_reducible refine Blk.set3 (a := .int .i64 0) (b := .int .i64 0) (c := .int .i64 0) ?_); with_reducible assumption))
      · ((repeat (first | (with_reducible assumption) | (with_reducible refine Blk.drewN ?_ _) | (with_reducible refine Blk.drew ?_) | ((with_reducible refine Blk.new _ ?_); focus (first | omega | (simp; done) | (simp; omega))) | (with_reducible refine Blk.past ?_ _) | ((with_reducible refine Blk.apart ?_ _ _ _ ?_); rotate_left; focus (first | omega | (simp; done) | (simp; omega))) | (with_reducible refine Blk.by (by assumption) ?_))); done)
      · ((repeat (first | (with_reducible assumption) | (with_reducible refine Blk.drewN ?_ _) | (with_reducible refine Blk.drew ?_) | ((with_reducible refine Blk.new _ ?_); focus (first | omega | (simp; done) | (simp; omega))) | (with_reducible refine Blk.past ?_ _) | ((with_reducible refine Blk.apart ?_ _ _ _ ?_); rotate_left; focus (first | omega | (simp; done) | (simp; omega))) | (with_reducible refine Blk.by (by assumption) ?_))); done)
      · ((repeat (first | (with_reducible exact Below.refl _ _) | (with_reducible refine below_drewN ?_ _) | (with_reducible refine Below.drew ?_) | (with_reducible refine below_al ?_ _) | (with_reducible refine below_on (by assumption) ?_) | ((with_reducible refine Below.setCell ?_ ?_ _); rotate_left; focus (first | omega | (simp; done) | (simp; omega))) | (with_reducible assumption))); done)
  case rest =>
  obtain ⟨Wp, rfl, rfl, kW, kA0_, kA1_, hW_⟩ := hcut
  replace kA0 := kA0_
  clear kA0_
  replace kA1 := kA1_
  clear kA1_
  replace hW := hW_
  clear hW_
  obtain ⟨t20, ht20⟩ : ∃ x : World, x = wc := ⟨_, rfl⟩
  subst ht20
  have cA0 := kA0.cell
  have cA1 := kA1.cell
  have cW := kW.cell
  go_wp2_with fail
  refine (HTO0.out _ _ (HV0.out.by hW)).mono ?_
  rintro e t30 ⟨v, rfl, hN, hb⟩
  replace kA0 := Blk.by hb kA0
  replace kA1 := Blk.by hb kA1
  replace kW := Blk.by hb kW
  replace hW := below_on hb hW
  clear hb cA0 cA1 cW
  have cA0 := kA0.cell
  have cA1 := kA1.cell
  have cW := kW.cell
  have HN30 := Lib.hid hN
  obtain ⟨a30, c30, a30d, c30d, rfl⟩ := hN.sized
  clear hN
  have kX0 : Blk (t30.alloc (.cells #[.int .i64 x.nets, .slice a30 x.ds.length c30, .slice a30d x.ps.length c30d] 35)) t30.heap.size #[.int .i64 x.nets, .slice a30 x.ds.length c30, .slice a30d x.ps.length c30d] 35 := Blk.new _ rfl
  replace kA0 := kA0.past (.cells #[.int .i64 x.nets, .slice a30 x.ds.length c30, .slice a30d x.ps.length c30d] 35)
  replace kA1 := kA1.past (.cells #[.int .i64 x.nets, .slice a30 x.ds.length c30, .slice a30d x.ps.length c30d] 35)
  replace kW := kW.past (.cells #[.int .i64 x.nets, .slice a30 x.ds.length c30, .slice a30d x.ps.length c30d] 35)
  replace hW := below_al hW (.cells #[.int .i64 x.nets, .slice a30 x.ds.length c30, .slice a30d x.ps.length c30d] 35)
  replace HN30 := Lib.hid (HN30.out.by ((Below.refl _ t30).alloc (Nat.le_refl _) (.cells #[.int .i64 x.nets, .slice a30 x.ds.length c30, .slice a30d x.ps.length c30d] 35)))
  clear cA0 cA1 cW
  have cA0 := kA0.cell
  have lA0 := kA0.lt
  have cA1 := kA1.cell
  have lA1 := kA1.lt
  have cW := kW.cell
  have lW := kW.lt
  have cX0 := kX0.cell
  have lX0 := kX0.lt
  go_wp2_with fail
  refine (HTO1.out _ _ (HV1.out.by hW)).mono ?_
  rintro e t31 ⟨v, rfl, hN, hb⟩
  replace kA0 := Blk.by hb kA0
  replace kA1 := Blk.by hb kA1
  replace kW := Blk.by hb kW
  replace kX0 := Blk.by hb kX0
  replace hW := below_on hb hW
  replace HN30 := Lib.hid (HN30.out.by hb)
  clear hb cA0 cA1 cW cX0
  have cA0 := kA0.cell
  have cA1 := kA1.cell
  have cW := kW.cell
  have cX0 := kX0.cell
  clear lA0 lA1 lW lX0
  generalize t30.heap.size = p0 at *
  have HN31 := Lib.hid hN
  obtain ⟨a31, c31, a31d, c31d, rfl⟩ := hN.sized
  clear hN
  have lA0 := kA0.lt
  have lA1 := kA1.lt
  have lW := kW.lt
  have lX0 := kX0.lt
  have kX1 : Blk (t31.alloc (.cells #[.int .i64 z.nets, .slice a31 z.ds.length c31, .slice a31d z.ps.length c31d] 35)) t31.heap.size #[.int .i64 z.nets, .slice a31 z.ds.length c31, .slice a31d z.ps.length c31d] 35 := Blk.new _ rfl
  replace kA0 := kA0.past (.cells #[.int .i64 z.nets, .slice a31 z.ds.length c31, .slice a31d z.ps.length c31d] 35)
  replace kA1 := kA1.past (.cells #[.int .i64 z.nets, .slice a31 z.ds.length c31, .slice a31d z.ps.length c31d] 35)
  replace kW := kW.past (.cells #[.int .i64 z.nets, .slice a31 z.ds.length c31, .slice a31d z.ps.length c31d] 35)
  replace kX0 := kX0.past (.cells #[.int .i64 z.nets, .slice a31 z.ds.length c31, .slice a31d z.ps.length c31d] 35)
  replace hW := below_al hW (.cells #[.int .i64 z.nets, .slice a31 z.ds.length c31, .slice a31d z.ps.length c31d] 35)
  replace HN30 := Lib.hid (HN30.out.by ((Below.refl _ t31).alloc (Nat.le_refl _) (.cells #[.int .i64 z.nets, .slice a31 z.ds.length c31, .slice a31d z.ps.length c31d] 35)))
  replace HN31 := Lib.hid (HN31.out.by ((Below.refl _ t31).alloc (Nat.le_refl _) (.cells #[.int .i64 z.nets, .slice a31 z.ds.length c31, .slice a31d z.ps.length c31d] 35)))
  clear cA0 cA1 cW cX0
  have cA0 := kA0.cell
  have lA0 := kA0.lt
  have cA1 := kA1.cell
  have lA1 := kA1.lt
  have cW := kW.cell
  have lW := kW.lt
  have cX0 := kX0.cell
  have lX0 := kX0.lt
  have cX1 := kX1.cell
  have lX1 := kX1.lt
  go_wp2_with fail
  refine (HIM.out _ _ _ HN30.out HN31.out).mono ?_
  rintro e t50 ⟨rfl, hb⟩
  replace kA0 := Blk.by hb kA0
  replace kA1 := Blk.by hb kA1
  replace kW := Blk.by hb kW
  replace kX0 := Blk.by hb kX0
  replace kX1 := Blk.by hb kX1
  replace hW := below_on hb hW
  replace HN30 := Lib.hid (HN30.out.by hb)
  replace HN31 := Lib.hid (HN31.out.by hb)
  clear hb cA0 cA1 cW cX0 cX1
  have cA0 := kA0.cell
  have cA1 := kA1.cell
  have cW := kW.cell
  have cX0 := kX0.cell
  have cX1 := kX1.cell
  clear lA0 lA1 lW lX0 lX1
  generalize t31.heap.size = p1 at *
  have kG : Blk (t50.alloc (.cells #[.int .i64 EK, .int .i64 EP, .int .i64 EQ] 43)) t50.heap.size #[.int .i64 EK, .int .i64 EP, .int .i64 EQ] 43 := Blk.new _ rfl
  replace kA0 := kA0.past (.cells #[.int .i64 EK, .int .i64 EP, .int .i64 EQ] 43)
  replace kA1 := kA1.past (.cells #[.int .i64 EK, .int .i64 EP, .int .i64 EQ] 43)
  replace kW := kW.past (.cells #[.int .i64 EK, .int .i64 EP, .int .i64 EQ] 43)
  replace kX0 := kX0.past (.cells #[.int .i64 EK, .int .i64 EP, .int .i64 EQ] 43)
  replace kX1 := kX1.past (.cells #[.int .i64 EK, .int .i64 EP, .int .i64 EQ] 43)
  replace hW := below_al hW (.cells #[.int .i64 EK, .int .i64 EP, .int .i64 EQ] 43)
  replace HN30 := Lib.hid (HN30.out.by ((Below.refl _ t50).alloc (Nat.le_refl _) (.cells #[.int .i64 EK, .int .i64 EP, .int .i64 EQ] 43)))
  replace HN31 := Lib.hid (HN31.out.by ((Below.refl _ t50).alloc (Nat.le_refl _) (.cells #[.int .i64 EK, .int .i64 EP, .int .i64 EQ] 43)))
  clear cA0 cA1 cW cX0 cX1
  have cA0 := kA0.cell
  have lA0 := kA0.lt
  have cA1 := kA1.cell
  have lA1 := kA1.lt
  have cW := kW.cell
  have lW := kW.lt
  have cX0 := kX0.cell
  have lX0 := kX0.lt
  have cX1 := kX1.cell
  have lX1 := kX1.lt
  go_wp2_with fail
  refine (eqMm_refl EK EP EQ _).mono ?_
  rintro e t53 ⟨rfl, hb⟩
  have cG := kG.cell
  replace kA0 := Blk.by hb kA0
  replace kA1 := Blk.by hb kA1
  replace kW := Blk.by hb kW
  replace kX0 := Blk.by hb kX0
  replace kX1 := Blk.by hb kX1
  replace kG := Blk.by hb kG
  replace hW := below_on hb hW
  replace HN30 := Lib.hid (HN30.out.by hb)
  replace HN31 := Lib.hid (HN31.out.by hb)
  clear hb cA0 cA1 cW cX0 cX1 cG
  have cA0 := kA0.cell
  have cA1 := kA1.cell
  have cW := kW.cell
  have cX0 := kX0.cell
  have cX1 := kX1.cell
  have cG := kG.cell
  clear lA0 lA1 lW lX0 lX1
  generalize t50.heap.size = pG at *
  go_wp2_with fail
  go_region_held3 (fun w' => (Blk w' (w.heap.size) #[.int .i64 x.nets, .slice a0 x.ds.length c0, .slice a0d x.ps.length c0d] 25 ∧ ∀ o, w'.cell? ⟨w.heap.size, o, none⟩ = (#[.int .i64 x.nets, .slice a0 x.ds.length c0, .slice a0d x.ps.length c0d] : Array Value)[o]?) ∧ (Blk w' (w.heap.size + 1) #[.int .i64 z.nets, .slice a1 z.ds.length c1, .slice a1d z.ps.length c1d] 25 ∧ ∀ o, w'.cell? ⟨w.heap.size + 1, o, none⟩ = (#[.int .i64 z.nets, .slice a1 z.ds.length c1, .slice a1d z.ps.length c1d] : Array Value)[o]?) ∧ (Blk w' (Wp) #[.int .i64 EK, .int .i64 EP, .int .i64 EQ] 43 ∧ ∀ o, w'.cell? ⟨Wp, o, none⟩ = (#[.int .i64 EK, .int .i64 EP, .int .i64 EQ] : Array Value)[o]?) ∧ (Blk w' (p0) #[.int .i64 x.nets, .slice a30 x.ds.length c30, .slice a30d x.ps.length c30d] 35 ∧ ∀ o, w'.cell? ⟨p0, o, none⟩ = (#[.int .i64 x.nets, .slice a30 x.ds.length c30, .slice a30d x.ps.length c30d] : Array Value)[o]?) ∧ (Blk w' (p1) #[.int .i64 z.nets, .slice a31 z.ds.length c31, .slice a31d z.ps.length c31d] 35 ∧ ∀ o, w'.cell? ⟨p1, o, none⟩ = (#[.int .i64 z.nets, .slice a31 z.ds.length c31, .slice a31d z.ps.length c31d] : Array Value)[o]?) ∧ (Blk w' (pG) #[.int .i64 EK, .int .i64 EP, .int .i64 EQ] 43 ∧ ∀ o, w'.cell? ⟨pG, o, none⟩ = (#[.int .i64 EK, .int .i64 EP, .int .i64 EQ] : Array Value)[o]?) ∧ Below w.heap.size w w') (((try (obtain ⟨⟨hS0, _⟩, ⟨hS1, _⟩, ⟨hS2, _⟩, ⟨hS3, _⟩, ⟨hS4, _⟩, ⟨hS5, _⟩, hSB⟩ := hHeld)); refine ⟨Blk.both ?_, Blk.both ?_, Blk.both ?_, Blk.both ?_, Blk.both ?_, Blk.both ?_, ?_⟩ <;> first | ((repeat (first | (with_reducible assumption) | (with_reducible refine Blk.drewN ?_ _) | (with_reducible refine Blk.drew ?_) | ((with_reducible refine Blk.new _ ?_); focus (first | omega | (simp; done) | (simp; omega))) | (with_reducible refine Blk.past ?_ _) | ((with_reducible refine Blk.apart ?_ _ _ _ ?_); rotate_left; focus (first | omega | (simp; done) | (simp; omega))) | (with_reducible refine Blk.by (by assumption) ?_))); done) | ((repeat (first | (with_reducible exact Below.refl _ _) | (with_reducible refine below_drewN ?_ _) | (with_reducible refine Below.drew ?_) | (with_reducible refine below_al ?_ _) | (with_reducible refine below_on (by assumption) ?_) | ((with_reducible refine Below.setCell ?_ ?_ _); rotate_left; focus (first | omega | (simp; done) | (simp; omega))) | (with_reducible assumption))); done)))
    (first | (go_at_call_of 12 (Value.agg #[Value.int IntKind.i64 x.nets, Value.slice a0 x.ds.length c0, Value.slice a0d x.ps.length c0d]); refine (HTO0.out _ _ ((HV0.out.by hW).by (below_of_drewN t53 1))).mono ?_; rintro e t60 ⟨v60_, rfl, hN, hb60⟩; have HN60 := Lib.hid hN; obtain ⟨a60, c60, a60d, c60d, rfl⟩ := hN.sized; clear hN) | (go_at_call 15; refine (HEQ0.out _ _ _ ((HN30.out.by (below_of_drewN t53 1)).by hb60) HN60.out).mono ?_; rintro e t61 ⟨rfl, hb61⟩))
  replace kA0 := (Blk.by hb61 (Blk.by hb60 (kA0.drewN 1)))
  replace kA1 := (Blk.by hb61 (Blk.by hb60 (kA1.drewN 1)))
  replace kW := (Blk.by hb61 (Blk.by hb60 (kW.drewN 1)))
  replace kX0 := (Blk.by hb61 (Blk.by hb60 (kX0.drewN 1)))
  replace kX1 := (Blk.by hb61 (Blk.by hb60 (kX1.drewN 1)))
  replace kG := (Blk.by hb61 (Blk.by hb60 (kG.drewN 1)))
  replace hW := (below_on hb61 (below_on hb60 (below_drewN hW 1)))
  replace HN30 := Lib.hid (((HN30.out.by (below_of_drewN t53 1)).by hb60).by hb61)
  replace HN31 := Lib.hid (((HN31.out.by (below_of_drewN t53 1)).by hb60).by hb61)
  clear hb60 hb61 cA0 cA1 cW cX0 cX1 cG
  have cA0 := kA0.cell
  have cA1 := kA1.cell
  have cW := kW.cell
  have cX0 := kX0.cell
  have cX1 := kX1.cell
  have cG := kG.cell
  go_wp2_with fail
  go_region_held3 (fun w' => (Blk w' (w.heap.size) #[.int .i64 x.nets, .slice a0 x.ds.length c0, .slice a0d x.ps.length c0d] 25 ∧ ∀ o, w'.cell? ⟨w.heap.size, o, none⟩ = (#[.int .i64 x.nets, .slice a0 x.ds.length c0, .slice a0d x.ps.length c0d] : Array Value)[o]?) ∧ (Blk w' (w.heap.size + 1) #[.int .i64 z.nets, .slice a1 z.ds.length c1, .slice a1d z.ps.length c1d] 25 ∧ ∀ o, w'.cell? ⟨w.heap.size + 1, o, none⟩ = (#[.int .i64 z.nets, .slice a1 z.ds.length c1, .slice a1d z.ps.length c1d] : Array Value)[o]?) ∧ (Blk w' (Wp) #[.int .i64 EK, .int .i64 EP, .int .i64 EQ] 43 ∧ ∀ o, w'.cell? ⟨Wp, o, none⟩ = (#[.int .i64 EK, .int .i64 EP, .int .i64 EQ] : Array Value)[o]?) ∧ (Blk w' (p0) #[.int .i64 x.nets, .slice a30 x.ds.length c30, .slice a30d x.ps.length c30d] 35 ∧ ∀ o, w'.cell? ⟨p0, o, none⟩ = (#[.int .i64 x.nets, .slice a30 x.ds.length c30, .slice a30d x.ps.length c30d] : Array Value)[o]?) ∧ (Blk w' (p1) #[.int .i64 z.nets, .slice a31 z.ds.length c31, .slice a31d z.ps.length c31d] 35 ∧ ∀ o, w'.cell? ⟨p1, o, none⟩ = (#[.int .i64 z.nets, .slice a31 z.ds.length c31, .slice a31d z.ps.length c31d] : Array Value)[o]?) ∧ (Blk w' (pG) #[.int .i64 EK, .int .i64 EP, .int .i64 EQ] 43 ∧ ∀ o, w'.cell? ⟨pG, o, none⟩ = (#[.int .i64 EK, .int .i64 EP, .int .i64 EQ] : Array Value)[o]?) ∧ Below w.heap.size w w') (((try (obtain ⟨⟨hS0, _⟩, ⟨hS1, _⟩, ⟨hS2, _⟩, ⟨hS3, _⟩, ⟨hS4, _⟩, ⟨hS5, _⟩, hSB⟩ := hHeld)); refine ⟨Blk.both ?_, Blk.both ?_, Blk.both ?_, Blk.both ?_, Blk.both ?_, Blk.both ?_, ?_⟩ <;> first | ((repeat (first | (with_reducible assumption) | (with_reducible refine Blk.drewN ?_ _) | (with_reducible refine Blk.drew ?_) | ((with_reducible refine Blk.new _ ?_); focus (first | omega | (simp; done) | (simp; omega))) | (with_reducible refine Blk.past ?_ _) | ((with_reducible refine Blk.apart ?_ _ _ _ ?_); rotate_left; focus (first | omega | (simp; done) | (simp; omega))) | (with_reducible refine Blk.by (by assumption) ?_))); done) | ((repeat (first | (with_reducible exact Below.refl _ _) | (with_reducible refine below_drewN ?_ _) | (with_reducible refine Below.drew ?_) | (with_reducible refine below_al ?_ _) | (with_reducible refine below_on (by assumption) ?_) | ((with_reducible refine Below.setCell ?_ ?_ _); rotate_left; focus (first | omega | (simp; done) | (simp; omega))) | (with_reducible assumption))); done)))
    (first | (go_at_call_of 12 (Value.agg #[Value.int IntKind.i64 z.nets, Value.slice a1 z.ds.length c1, Value.slice a1d z.ps.length c1d]); refine (HTO1.out _ _ ((HV1.out.by hW).by (below_of_drewN t61 1))).mono ?_; rintro e t62 ⟨v62_, rfl, hN, hb62⟩; have HN62 := Lib.hid hN; obtain ⟨a62, c62, a62d, c62d, rfl⟩ := hN.sized; clear hN) | (go_at_call 15; refine (HEQ1.out _ _ _ ((HN31.out.by (below_of_drewN t61 1)).by hb62) HN62.out).mono ?_; rintro e t63 ⟨rfl, hb63⟩))
  go_wp2
  go_ret
  exact ⟨rfl, blwT⟩
end Go.Proofs.YtifbffianbgeaaaGreat.fnExactExplainMismatch
namespace Go.Proofs.YtifbffianbgeaaaGreat.facts
open Go.RowKit Go.Proofs.YtifbffianbgeaaaGreat
theorem laid : (laidOutB Tryz.pinned.checked.prog) = true := by kernel_rfl
theorem rowed : (mapsRowed Tryz.pinned.checked.prog) = true := by kernel_rfl
theorem stops : (Tryz.pinned.checked.prog.stops == []) = true := by kernel_rfl
theorem knobs : (Tryz.pinned.checked.prog.stopKnobs == []) = true := by kernel_rfl
theorem keys : (Rows.fnExactCompareNetlistsRow.plainKeys == Tryz.pinned.checked.prog.plainKeys) = true := by kernel_rfl
theorem heard : (Tryz.pinned.checked.prog.stopsHeard) = true := by kernel_rfl
theorem enter : (Tryz.pinned.checked.prog.mayEnter) = true := by kernel_rfl
theorem lifts : (Rows.fnExactCompareNetlistsRow.lifted == Tryz.pinned.checked.prog.liftsFinal) = true := by kernel_rfl
theorem make : (Tryz.pinned.checked.prog.make == some Rows.fnExactCompareNetlistsRow.make) = true := by kernel_rfl
theorem own : ownKnob Tryz.prog.godebug = none := by kernel_rfl
theorem laidOut : laidOutB Tryz.prog = true := laid
end Go.Proofs.YtifbffianbgeaaaGreat.facts
