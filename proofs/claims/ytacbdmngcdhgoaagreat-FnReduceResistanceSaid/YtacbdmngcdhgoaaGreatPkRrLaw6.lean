/- Contracts and plain laws, part 6, for the statement's proof. -/
import Derived.Test.YtacbdmngcdhgoaaGreatPkRrLaw5
import Derived.Deep.DeepCutAuto
import Derived.Laws.IdiomCopy
import Derived.Laws.AppendOwn
import Derived.Deep.RegionHeldLaw
import Derived.Shelf.Abstract
import Derived.Deep.RegionHeld3
namespace Go.Proofs.YtacbdmngcdhgoaaGreat
open Go.RowKit
set_option linter.unusedVariables false
set_option linter.unusedSimpArgs false
def Lad (W0 : World) (g : Nat) (sv : Value) (n : Nat) (w : World) (T : Nat) (N : Int) (B hi : Nat) (v : Value) (ds : List Dv) (wx : World) : Prop :=
  Blk wx T #[.int .i64 N, v, .slice none 0 0] 27 ∧ Blk wx w.heap.size #[.int .i64 0, .slice none 0 0, .slice none 0 0] 27 ∧ BldD wx B hi v ds ∧ Src1 W0 g sv n wx ∧ Within g (g + 1) w wx
section
variable {W0 : World} {g : Nat} {sv : Value} {n : Nat} {w : World} {T : Nat} {N : Int} {B hi : Nat} {v : Value} {ds : List Dv} {wx wy : World}
theorem Lad.only (h : Lad W0 g sv n w T N B hi v ds wx) (ho : Only g wx wy) (hD : Src1 W0 g sv n wy) (h1 : g < w.heap.size) (h2 : w.heap.size < T) (h3 : T < B) : Lad W0 g sv n w T N B hi v ds wy :=
  ⟨ho.within.blk h.1 (by omega), ho.within.blk h.2.1 (by omega), h.2.2.1.only ho (by omega), hD, h.2.2.2.2.on ho.within⟩
theorem Lad.by (hb : Below wx.heap.size wx wy) (h : Lad W0 g sv n w T N B hi v ds wx) : Lad W0 g sv n w T N B hi v ds wy :=
  ⟨Blk.by hb h.1, Blk.by hb h.2.1, h.2.2.1.by hb, h.2.2.2.1.by hb, h.2.2.2.2.on (Within.ofBelowM _ _ hb)⟩
theorem Lad.past {lo' hi' : Nat} (h : Lad W0 g sv n w T N B hi v ds wx) (hw : Within lo' hi' wx wy) (h0 : W0.heap.size ≤ g) (h1 : g < w.heap.size) (h2 : w.heap.size < T) (h3 : T < B) (h4 : B ≤ hi) (h5 : hi ≤ lo') : Lad W0 g sv n w T N B hi v ds wy :=
  ⟨hw.blk h.1 (by omega), hw.blk h.2.1 (by omega), BldD.past hw h.2.2.1 (by omega), Src1.within hw h.2.2.2.1 (by omega) (by omega), h.2.2.2.2.newerM hw (by omega)⟩
end
set_option maxRecDepth 100000 in
set_option maxHeartbeats 8000000 in
theorem l28DrawLadder_any (W0 : World) (g : Nat) (sv : Value) (n : Nat) (w : World) (hD : Src1 W0 g sv n w) :
    Calls Tryz.prog 36 #[.pointer (some ⟨g, 0, none⟩)] w fun e w' => ∃ (v : Value) (x : Nl), e = .returned v ∧ Hid (NlO w.heap.size w' v x) ∧ Hid (Small x) ∧ Hid (Src1 W0 g sv n w') ∧ Hid (Within g (g + 1) w w') := by
  have HN := Lib.hid (fun q w h hq => l01Next_any W0 g sv n q w h hq)
  have hgl := hD.lt
  have hW0 : W0.heap.size ≤ g := hD.1
  have HD := Lib.hid hD
  clear hD
  go_enter Tryz.func36, Tryz.ntmps36
  go_wp2_with fail
  refine (HN.out _ _ (HD.out.by blwT) (by omega)).mono ?_
  rintro e w1 ⟨a, rfl, ha0, ha1, hD1, ho1⟩
  have kZ0 : Blk (w.alloc (.cells #[.int .i64 0, .slice none 0 0, .slice none 0 0] 27)) w.heap.size #[.int .i64 0, .slice none 0 0, .slice none 0 0] 27 := Blk.new _ rfl
  have kZ := ho1.within.blk kZ0 (by omega)
  have hW1 : Within g (g + 1) w w1 := ((Within.refl g (g + 1) w).alloc _).on ho1.within
  have wa : IntKind.i64.wrap (3 + a) = 3 + a := by simp [IntKind.wrap, IntKind.bits, IntKind.signed]; omega
  have lZ := kZ.lt
  obtain ⟨N, hN⟩ : ∃ N, 3 + a = N := ⟨_, rfl⟩
  have hNb : 3 ≤ N ∧ N ≤ 5 := by omega
  rw [hN] at wa
  have hbA : Below w1.heap.size w1 (w1.alloc (.cells #[.int .i64 N, .slice none 0 0, .slice none 0 0] 27)) := (Below.refl _ w1).alloc (Nat.le_refl _) _
  have k3 : Blk (w1.alloc (.cells #[.int .i64 N, .slice none 0 0, .slice none 0 0] 27)) w1.heap.size #[.int .i64 N, .slice none 0 0, .slice none 0 0] 27 := Blk.new _ rfl
  have hsA : w1.heap.size + 1 ≤ (w1.alloc (.cells #[.int .i64 N, .slice none 0 0, .slice none 0 0] 27)).heap.size := by simp
  have hBl := BldD.nil (w1.alloc (.cells #[.int .i64 N, .slice none 0 0, .slice none 0 0] 27)) (w1.heap.size + 1)
  have hL0 : Lad W0 g sv n w w1.heap.size N (w1.heap.size + 1) (w1.alloc (.cells #[.int .i64 N, .slice none 0 0, .slice none 0 0] 27)).heap.size (.slice none 0 0) [] (w1.alloc (.cells #[.int .i64 N, .slice none 0 0, .slice none 0 0] 27)) := ⟨k3, Blk.by hbA kZ, hBl, hD1.by hbA, hW1.on (Within.ofBelowM _ _ hbA)⟩
  have HL0 := Lib.hid hL0
  clear kZ0 kZ hW1 hD1 ho1 hbA k3 hBl hL0
  go_upto_region 2 with fail
  generalize w1.alloc (.cells #[.int .i64 N, .slice none 0 0, .slice none 0 0] 27) = w2 at *
  obtain ⟨T, hT⟩ : ∃ T, w1.heap.size = T := ⟨_, rfl⟩
  (try rw [hT])
  rw [hT] at HL0 hsA lZ
  clear hT
  go_wp2_with fail
  refine (HN.out _ _ HL0.out.2.2.2.1 (by omega)).mono ?_
  rintro e w3 ⟨kd, rfl, hk0, hk1, hD3, ho3⟩
  have HL3 := Lib.hid (HL0.out.only ho3 hD3 (by omega) (by omega) (by omega))
  clear hD3 HL0
  go_wp2_with fail
  refine (HN.out _ _ HL3.out.2.2.2.1 (by omega)).mono ?_
  rintro e w4 ⟨m, rfl, hm0, hm1, hD4, ho4⟩
  have HL4 := Lib.hid (HL3.out.only ho4 hD4 (by omega) (by omega) (by omega))
  have wm : IntKind.i64.wrap (1 + m) = 1 + m := by simp [IntKind.wrap, IntKind.bits, IntKind.signed]; omega
  obtain ⟨M, hM⟩ : ∃ M : Nat, 1 + m = M := ⟨(1 + m).toNat, by omega⟩
  have hMb : 1 ≤ M ∧ M ≤ 6 := by omega
  rw [hM] at wm
  have hs2 : w2.heap.size ≤ w4.heap.size := by have := ho3.within.size; have := ho4.within.size; omega
  clear hD4 HL3 ho3 ho4
  go_wp2
  -- the loop
  go_loopw [5] (fun z wr => ∃ (q : Nat) (v : Value) (ds : List Dv) (hi : Nat), Hid (z = .int .i64 (q : Int)) ∧ Hid (ds.length + q = M) ∧ Hid (T + 1 ≤ hi) ∧ Hid (∀ d ∈ ds, 2 ≤ d.pins.length ∧ d.pins.length ≤ 3) ∧ Hid (Lad W0 g sv n w T N (T + 1) hi v ds wr)) (fun z _ => (intOf z).toNat)
  case atStart => exact ⟨M, .slice none 0 0, [], w2.heap.size, Lib.hid (by first | rfl | (rw [wm])), Lib.hid (by simp), Lib.hid hsA, Lib.hid (by simp), HL4⟩
  case round =>
    clear HL4
    have lZT : w.heap.size < T := by omega
    obtain ⟨q, v, ds, hi, HZQ, HQ, HBH, HPN, HL⟩ := hrel
    obtain rfl := HZQ.out
    have hql := HQ.out
    have hBhi := HBH.out
    obtain ⟨av, cv, rfl⟩ := HL.out.2.2.1.sized
    have hhi := HL.out.2.2.1.1
    have c3 := HL.out.1.cell
    have l3 := HL.out.1.lt
    clear HZQ
    by_cases hq : 0 < q
    · obtain ⟨r, rfl⟩ : ∃ r, q = r + 1 := ⟨q - 1, by omega⟩
      have i1 : (0 : Int) < ((r + 1 : Nat) : Int) := by omega
      have wq : IntKind.i64.wrap (((r + 1 : Nat) : Int) - 1) = (r : Int) := by simp [IntKind.wrap, IntKind.bits, IntKind.signed]; omega
      have wN : IntKind.i64.wrap (N - 1) = N - 1 := by simp [IntKind.wrap, IntKind.bits, IntKind.signed]; omega
      go_wp2_with fail
      refine (HN.out _ _ HL.out.2.2.2.1 (by omega)).mono ?_
      rintro e w5 ⟨p1, rfl, hp0, hp1, hD5, ho5⟩
      have HL5 := Lib.hid (HL.out.only ho5 hD5 (by omega) (by omega) (by omega))
      have hs5 : wr.heap.size ≤ w5.heap.size := ho5.within.size
      have wp : IntKind.i64.wrap (p1 + 1) = p1 + 1 := by simp [IntKind.wrap, IntKind.bits, IntKind.signed]; omega
      clear hD5 ho5 HL c3 l3
      have c3 := HL5.out.1.cell
      have l3 := HL5.out.1.lt
      go_wp2_with fail
      refine (HN.out _ _ HL5.out.2.2.2.1 (by omega)).mono ?_
      rintro e w6 ⟨y, rfl, hy0, hy1, hD6, ho6⟩
      have HL6 := Lib.hid (HL5.out.only ho6 hD6 (by omega) (by omega) (by omega))
      have hs6 : w5.heap.size ≤ w6.heap.size := ho6.within.size
      clear hD6 ho6 HL5 c3 l3
      have c3 := HL6.out.1.cell
      have l3 := HL6.out.1.lt
      go_upto_if 33 with fail
      go_cut [7] (fun s wx => ∃ b : Int, s = .int .i64 b ∧ Hid (w6.heap.size ≤ wx.heap.size) ∧ Hid (Lad W0 g sv n w T N (T + 1) hi (.slice av ds.length cv) ds wx))
      case first =>
        by_cases hy : y = 0
        · subst hy
          go_wp2_with fail
          refine (HN.out _ _ HL6.out.2.2.2.1 (by omega)).mono ?_
          rintro e w7 ⟨b, rfl, hb0, hb1, hD7, ho7⟩
          go_wp2
          go_meet
          exact ⟨b, rfl, Lib.hid ho7.within.size, Lib.hid (HL6.out.only ho7 hD7 (by omega) (by omega) (by omega))⟩
        · go_wp2_with fail
          go_meet
          exact ⟨p1 + 1, rfl, Lib.hid (Nat.le_refl _), HL6⟩
      case rest =>
        obtain ⟨b, rfl, HS7, HL7⟩ := hcut
        have hs7 := HS7.out
        have c3 := HL7.out.1.cell
        have l3 := HL7.out.1.lt
        clear HL6
        go_upto_region 10 with fail
        go_cut [8] (fun s wx => ∃ (D f : Nat) (pv : Value) (zs : List Int) (W L : Int), s = .pointer (some ⟨D, 0, none⟩) ∧ Hid (Blk wx D #[.int .i64 kd, pv, .int .i64 W, .int .i64 L] 46) ∧ Hid (BldI wx f (f + 1) pv zs) ∧ Hid (zs.length = 3) ∧ Hid (hi ≤ f ∧ hi ≤ D ∧ f ≠ D) ∧ Hid (Lad W0 g sv n w T N (T + 1) hi (.slice av ds.length cv) ds wx))
        case first =>
          go_region_law
            (go_simp; go_at_call 11; refine (HN.out _ _ (HL7.out.2.2.2.1.by blwT) (by omega)).mono ?_; rintro e w8 ⟨z, rfl, hz0, hz1, hD8, ho8⟩; have HL8 := Lib.hid ((HL7.out.by blwT).only ho8 hD8 (by omega) (by omega) (by omega)); have hs8' : wc.heap.size ≤ w8.heap.size := (by have h := ho8.within.size; simp at h; omega); have c8 := HL8.out.1.cell; have l8 := HL8.out.1.lt; (try (refine with_fact (p := Blk w8 (wc.heap.size) #[.int .i64 (N - 1), .int .i64 p1, .int .i64 b] 2) (ho8.within.blk ?_ (by omega)) ?_; (focus ((repeat (first | (with_reducible assumption) | (with_reducible refine Blk.drewN ?_ _) | (with_reducible refine Blk.drew ?_) | ((with_reducible refine Blk.new _ ?_); focus (first | omega | (simp; done) | (simp; omega))) | (with_reducible refine Blk.past ?_ _) | ((with_reducible refine Blk.apart ?_ _ _ _ ?_); rotate_left; focus (first | omega | (simp; done) | (simp; omega))) | (with_reducible refine Blk.by (by assumption) ?_))); done)); intro kL1; have lkL1 := kL1.lt)); (try (refine with_fact (p := Blk w8 (wc.heap.size + 1) #[.int .i64 (N - 1), .int .i64 p1, .int .i64 b] 2) (ho8.within.blk ?_ (by omega)) ?_; (focus ((repeat (first | (with_reducible assumption) | (with_reducible refine Blk.drewN ?_ _) | (with_reducible refine Blk.drew ?_) | ((with_reducible refine Blk.new _ ?_); focus (first | omega | (simp; done) | (simp; omega))) | (with_reducible refine Blk.past ?_ _) | ((with_reducible refine Blk.apart ?_ _ _ _ ?_); rotate_left; focus (first | omega | (simp; done) | (simp; omega))) | (with_reducible refine Blk.by (by assumption) ?_))); done)); intro kL2; have lkL2 := kL2.lt)); (try (refine with_fact (p := Blk w8 (wc.heap.size) #[.int .i64 0, .slice none 0 0, .int .i64 0, .int .i64 0] 46) (ho8.within.blk ?_ (by omega)) ?_; (focus ((repeat (first | (with_reducible assumption) | (with_reducible refine Blk.drewN ?_ _) | (with_reducible refine Blk.drew ?_) | ((with_reducible refine Blk.new _ ?_); focus (first | omega | (simp; done) | (simp; omega))) | (with_reducible refine Blk.past ?_ _) | ((with_reducible refine Blk.apart ?_ _ _ _ ?_); rotate_left; focus (first | omega | (simp; done) | (simp; omega))) | (with_reducible refine Blk.by (by assumption) ?_))); done)); intro kD1; have lkD1 := kD1.lt; have ckD1 := kD1.cell; have fkD1 := kD1.free)); (try (refine with_fact (p := Blk w8 (wc.heap.size + 1) #[.int .i64 0, .slice none 0 0, .int .i64 0, .int .i64 0] 46) (ho8.within.blk ?_ (by omega)) ?_; (focus ((repeat (first | (with_reducible assumption) | (with_reducible refine Blk.drewN ?_ _) | (with_reducible refine Blk.drew ?_) | ((with_reducible refine Blk.new _ ?_); focus (first | omega | (simp; done) | (simp; omega))) | (with_reducible refine Blk.past ?_ _) | ((with_reducible refine Blk.apart ?_ _ _ _ ?_); rotate_left; focus (first | omega | (simp; done) | (simp; omega))) | (with_reducible refine Blk.by (by assumption) ?_))); done)); intro kD2; have lkD2 := kD2.lt; have ckD2 := kD2.cell; have fkD2 := kD2.free)); have hs8 := Lib.hid ho8.within.size; clear hD8 ho8)
          all_goals
            have hs8'' : wc.heap.size ≤ w8.heap.size := hs8'
            go_wp2_with fail
            go_meet
            first
            | (have hG := And.intro kD2 kL1
               with_reducible refine ⟨wc.heap.size + 1, wc.heap.size, (.slice (some ⟨wc.heap.size, 0, none⟩) 3 3), [N - 1, p1, b], (IntKind.i64.wrap (1 + IntKind.i64.wrap (z.tdiv 2))), 1, rfl, ?_⟩
               have hW : Within (wc.heap.size + 1) (wc.heap.size + 1 + 1) w8 ((((w8.setCell ⟨wc.heap.size + 1, 0, none⟩ (.int .i64 kd)).setCell ⟨wc.heap.size + 1, 1, none⟩ (.slice (some ⟨wc.heap.size, 0, none⟩) 3 3)).setCell ⟨wc.heap.size + 1, 2, none⟩ (.int .i64 (IntKind.i64.wrap (1 + IntKind.i64.wrap (z.tdiv 2))))).setCell ⟨wc.heap.size + 1, 3, none⟩ (.int .i64 1)) := (((Within.off _).on (Within.off _)).on (Within.off _)).on (Within.off _)
               have kF : Blk ((((w8.setCell ⟨wc.heap.size + 1, 0, none⟩ (.int .i64 kd)).setCell ⟨wc.heap.size + 1, 1, none⟩ (.slice (some ⟨wc.heap.size, 0, none⟩) 3 3)).setCell ⟨wc.heap.size + 1, 2, none⟩ (.int .i64 (IntKind.i64.wrap (1 + IntKind.i64.wrap (z.tdiv 2))))).setCell ⟨wc.heap.size + 1, 3, none⟩ (.int .i64 1)) (wc.heap.size + 1) #[.int .i64 kd, (.slice (some ⟨wc.heap.size, 0, none⟩) 3 3), .int .i64 (IntKind.i64.wrap (1 + IntKind.i64.wrap (z.tdiv 2))), .int .i64 1] 46 := by simpa using (((kD2.set 0 (.int .i64 kd)).set 1 (.slice (some ⟨wc.heap.size, 0, none⟩) 3 3)).set 2 (.int .i64 (IntKind.i64.wrap (1 + IntKind.i64.wrap (z.tdiv 2))))).set 3 (.int .i64 1)
               exact ⟨Lib.hid kF, Lib.hid (BldI.past hW (BldI.lit (zs := [N - 1, p1, b]) kL1 rfl (by simp) (Nat.le_refl _) (Nat.lt_succ_self _) (by omega)) (by omega)), Lib.hid rfl, Lib.hid ⟨by omega, by omega, by omega⟩, Lib.hid (HL8.out.past hW hW0 hgl lZT (by omega) hBhi (by omega))⟩)
            | (have hG := And.intro kD1 kL2
               with_reducible refine ⟨wc.heap.size, wc.heap.size + 1, (.slice (some ⟨wc.heap.size + 1, 0, none⟩) 3 3), [N - 1, p1, b], (IntKind.i64.wrap (1 + IntKind.i64.wrap (z.tdiv 2))), 1, rfl, ?_⟩
               have hW : Within (wc.heap.size) (wc.heap.size + 1) w8 ((((w8.setCell ⟨wc.heap.size, 0, none⟩ (.int .i64 kd)).setCell ⟨wc.heap.size, 1, none⟩ (.slice (some ⟨wc.heap.size + 1, 0, none⟩) 3 3)).setCell ⟨wc.heap.size, 2, none⟩ (.int .i64 (IntKind.i64.wrap (1 + IntKind.i64.wrap (z.tdiv 2))))).setCell ⟨wc.heap.size, 3, none⟩ (.int .i64 1)) := (((Within.off _).on (Within.off _)).on (Within.off _)).on (Within.off _)
               have kF : Blk ((((w8.setCell ⟨wc.heap.size, 0, none⟩ (.int .i64 kd)).setCell ⟨wc.heap.size, 1, none⟩ (.slice (some ⟨wc.heap.size + 1, 0, none⟩) 3 3)).setCell ⟨wc.heap.size, 2, none⟩ (.int .i64 (IntKind.i64.wrap (1 + IntKind.i64.wrap (z.tdiv 2))))).setCell ⟨wc.heap.size, 3, none⟩ (.int .i64 1)) (wc.heap.size) #[.int .i64 kd, (.slice (some ⟨wc.heap.size + 1, 0, none⟩) 3 3), .int .i64 (IntKind.i64.wrap (1 + IntKind.i64.wrap (z.tdiv 2))), .int .i64 1] 46 := by simpa using (((kD1.set 0 (.int .i64 kd)).set 1 (.slice (some ⟨wc.heap.size + 1, 0, none⟩) 3 3)).set 2 (.int .i64 (IntKind.i64.wrap (1 + IntKind.i64.wrap (z.tdiv 2))))).set 3 (.int .i64 1)
               exact ⟨Lib.hid kF, Lib.hid (BldI.past hW (BldI.lit (zs := [N - 1, p1, b]) kL2 rfl (by simp) (Nat.le_refl _) (Nat.lt_succ_self _) (by omega)) (by omega)), Lib.hid rfl, Lib.hid ⟨by omega, by omega, by omega⟩, Lib.hid (HL8.out.past hW hW0 hgl lZT (by omega) hBhi (by omega))⟩)
            | (have hG := And.intro kD1 kD1
               with_reducible refine ⟨wc.heap.size, w8.heap.size, (.slice (some ⟨w8.heap.size, 0, none⟩) 3 3), [N - 1, p1, b], (IntKind.i64.wrap (1 + IntKind.i64.wrap (z.tdiv 2))), 1, rfl, ?_⟩
               have hW : Within (wc.heap.size) (wc.heap.size + 1) w8 ((((w8.setCell ⟨wc.heap.size, 0, none⟩ (.int .i64 kd)).setCell ⟨wc.heap.size, 1, none⟩ (.slice (some ⟨w8.heap.size, 0, none⟩) 3 3)).setCell ⟨wc.heap.size, 2, none⟩ (.int .i64 (IntKind.i64.wrap (1 + IntKind.i64.wrap (z.tdiv 2))))).setCell ⟨wc.heap.size, 3, none⟩ (.int .i64 1)) := (((Within.off _).on (Within.off _)).on (Within.off _)).on (Within.off _)
               have kF : Blk ((((w8.setCell ⟨wc.heap.size, 0, none⟩ (.int .i64 kd)).setCell ⟨wc.heap.size, 1, none⟩ (.slice (some ⟨w8.heap.size, 0, none⟩) 3 3)).setCell ⟨wc.heap.size, 2, none⟩ (.int .i64 (IntKind.i64.wrap (1 + IntKind.i64.wrap (z.tdiv 2))))).setCell ⟨wc.heap.size, 3, none⟩ (.int .i64 1)) (wc.heap.size) #[.int .i64 kd, (.slice (some ⟨w8.heap.size, 0, none⟩) 3 3), .int .i64 (IntKind.i64.wrap (1 + IntKind.i64.wrap (z.tdiv 2))), .int .i64 1] 46 := by simpa using (((kD1.set 0 (.int .i64 kd)).set 1 (.slice (some ⟨w8.heap.size, 0, none⟩) 3 3)).set 2 (.int .i64 (IntKind.i64.wrap (1 + IntKind.i64.wrap (z.tdiv 2))))).set 3 (.int .i64 1)
               exact ⟨Lib.hid (kF.past _), Lib.hid (BldI.lit (zs := [N - 1, p1, b]) (Blk.new _ (by simp)) rfl (by simp) (Nat.le_refl _) (Nat.lt_succ_self _) (by simp)), Lib.hid rfl, Lib.hid ⟨by omega, by omega, by omega⟩, Lib.hid ((HL8.out.past hW hW0 hgl lZT (by omega) hBhi (by omega)).by ((Below.refl _ _).alloc (Nat.le_refl _) _))⟩)
            | (have hG := kL1
               with_reducible refine ⟨w8.heap.size, wc.heap.size, (.slice (some ⟨wc.heap.size, 0, none⟩) 3 3), [N - 1, p1, b], (IntKind.i64.wrap (1 + IntKind.i64.wrap (z.tdiv 2))), 1, rfl, ?_⟩
               exact ⟨Lib.hid (Blk.new _ rfl), Lib.hid ((BldI.lit (zs := [N - 1, p1, b]) kL1 rfl (by simp) (Nat.le_refl _) (Nat.lt_succ_self _) (by omega)).by ((Below.refl _ w8).alloc (Nat.le_refl _) _)), Lib.hid rfl, Lib.hid ⟨by omega, by omega, by omega⟩, Lib.hid (HL8.out.by ((Below.refl _ w8).alloc (Nat.le_refl _) _))⟩)
            | (with_reducible refine ⟨w8.heap.size + 1, w8.heap.size, (.slice (some ⟨w8.heap.size, 0, none⟩) 3 3), [N - 1, p1, b], (IntKind.i64.wrap (1 + IntKind.i64.wrap (z.tdiv 2))), 1, rfl, ?_⟩
               exact ⟨Lib.hid (Blk.new _ (by simp)), Lib.hid (BldI.lit (zs := [N - 1, p1, b]) ((Blk.new _ rfl).past _) rfl (by simp) (Nat.le_refl _) (Nat.lt_succ_self _) (by simp)), Lib.hid rfl, Lib.hid ⟨by omega, by omega, by omega⟩, Lib.hid (HL8.out.by (Below.alloc ((Below.refl _ w8).alloc (Nat.le_refl _) _) (by simp) _))⟩)
            | (with_reducible refine ⟨w8.heap.size, w8.heap.size + 1, (.slice (some ⟨w8.heap.size + 1, 0, none⟩) 3 3), [N - 1, p1, b], (IntKind.i64.wrap (1 + IntKind.i64.wrap (z.tdiv 2))), 1, rfl, ?_⟩
               exact ⟨Lib.hid ((Blk.new _ rfl).past _), Lib.hid (BldI.lit (zs := [N - 1, p1, b]) (Blk.new _ (by simp)) rfl (by simp) (Nat.le_refl _) (Nat.lt_succ_self _) (by simp)), Lib.hid rfl, Lib.hid ⟨by omega, by omega, by omega⟩, Lib.hid (HL8.out.by (Below.alloc ((Below.refl _ w8).alloc (Nat.le_refl _) _) (by simp) _))⟩)
        case rest =>
          obtain ⟨D, f, pv, zs, W, L, rfl, HDv, HBF, HZL, HBD, HL8⟩ := hcut
          obtain ⟨pva, pvc, rfl⟩ := HBF.out.sized
          have hDw : D < wc.heap.size := HDv.out.lt
          have hbd := HBD.out
          have hzl := HZL.out
          clear HL7 HS7
          have hlz : hi ≤ wc.heap.size := HL8.out.2.2.1.1
          go_upto_if 51 with fail
          go_cut [8] (fun s wx => s = .pointer (some ⟨D, 0, none⟩) ∧ ∃ (f : Nat) (pv : Value) (zs : List Int) (W L : Int), Hid (Blk wx D #[.int .i64 kd, pv, .int .i64 W, .int .i64 L] 46) ∧ Hid (BldI wx f (f + 1) pv zs) ∧ Hid (2 ≤ zs.length ∧ zs.length ≤ 3) ∧ Hid (hi ≤ f ∧ f ≠ D) ∧ Hid (Lad W0 g sv n w T N (T + 1) hi (.slice av ds.length cv) ds wx))
          case first =>
            have kD := HDv.out
            have cD := kD.cell
            have fD := kD.free
            have lD := kD.lt
            by_cases hk : kd = 2
            · subst hk
              go_wp2_with fail
              have hWs : Within D (D + 1) wc (wc.setCell ⟨D, 1, none⟩ (.slice (some ⟨wc.heap.size, 0, none⟩) 2 2)) := Within.off _
              have hbA : Below (wc.setCell ⟨D, 1, none⟩ (.slice (some ⟨wc.heap.size, 0, none⟩) 2 2)).heap.size (wc.setCell ⟨D, 1, none⟩ (.slice (some ⟨wc.heap.size, 0, none⟩) 2 2)) ((wc.setCell ⟨D, 1, none⟩ (.slice (some ⟨wc.heap.size, 0, none⟩) 2 2)).alloc (.cells #[.int .i64 p1, .int .i64 b] 2)) := (Below.refl _ _).alloc (Nat.le_refl _) _
              have HLA := Lib.hid ((HL8.out.past hWs hW0 hgl lZT (by omega) hBhi (by omega)).by hbA)
              have kDA : Blk ((wc.setCell ⟨D, 1, none⟩ (.slice (some ⟨wc.heap.size, 0, none⟩) 2 2)).alloc (.cells #[.int .i64 p1, .int .i64 b] 2)) D #[.int .i64 2, .slice (some ⟨wc.heap.size, 0, none⟩) 2 2, .int .i64 W, .int .i64 L] 46 := (kD.set 1 _).past _
              have kLA : Blk ((wc.setCell ⟨D, 1, none⟩ (.slice (some ⟨wc.heap.size, 0, none⟩) 2 2)).alloc (.cells #[.int .i64 p1, .int .i64 b] 2)) wc.heap.size #[.int .i64 p1, .int .i64 b] 2 := Blk.new _ (by simp)
              have HBA := Lib.hid (BldI.lit (zs := [p1, b]) kLA rfl (by simp) (Nat.le_refl _) (Nat.lt_succ_self _) (by simp))
              clear kLA hbA hWs cD fD kD
              refine (HN.out _ _ HLA.out.2.2.2.1 (by omega)).mono ?_
              rintro e w9 ⟨y2, rfl, hz0, hz1, hD9, ho9⟩
              have HL9 := Lib.hid (HLA.out.only ho9 hD9 (by omega) (by omega) (by omega))
              have kD9 := ho9.within.blk kDA (by omega)
              have HB9 := Lib.hid (HBA.out.only ho9 (by omega))
              clear hD9 ho9 HLA kDA HBA lD
              have cD := kD9.cell
              have fD := kD9.free
              have lD := kD9.lt
              by_cases hy2 : y2 = 0
              · subst hy2
                have hWs : Within D (D + 1) w9 (w9.setCell ⟨D, 2, none⟩ (.int .i64 1)) := Within.off _
                have HLs := Lib.hid (HL9.out.past hWs hW0 hgl lZT (by omega) hBhi (by omega))
                have HBs := Lib.hid (BldI.past hWs HB9.out (by omega))
                have kDs := kD9.set 2 (.int .i64 1)
                go_wp2_with (go_at_call 11; refine (HN.out _ _ HLs.out.2.2.2.1 (by omega)).mono ?_; rintro e w10 ⟨y3, rfl, hq0, hq1, hD10, ho10⟩; have HL10 := Lib.hid (HLs.out.only ho10 hD10 (by omega) (by omega) (by omega)); have kD10 := ho10.within.blk kDs (by omega); have HB10 := Lib.hid (HBs.out.only ho10 (by omega)); have c10 := kD10.cell; have f10 := kD10.free; have l10 := kD10.lt; clear hD10 ho10)
                go_meet
                have hWt : Within D (D + 1) w10 (w10.setCell ⟨D, 3, none⟩ (.int .i64 ((2 + y3)))) := Within.off _
                exact ⟨rfl, wc.heap.size, _, [p1, b], 1, (2 + y3), Lib.hid (kD10.set 3 _), Lib.hid (BldI.past hWt HB10.out (by omega)), Lib.hid (by simp), Lib.hid ⟨by omega, by omega⟩, Lib.hid (HL10.out.past hWt hW0 hgl lZT (by omega) hBhi (by omega))⟩
              · go_wp2_with fail
                go_meet
                exact ⟨rfl, wc.heap.size, _, [p1, b], W, L, Lib.hid kD9, HB9, Lib.hid (by simp), Lib.hid ⟨by omega, by omega⟩, HL9⟩
            · go_wp2_with fail
              refine (HN.out _ _ HL8.out.2.2.2.1 (by omega)).mono ?_
              rintro e w9 ⟨y2, rfl, hz0, hz1, hD9, ho9⟩
              have HL9 := Lib.hid (HL8.out.only ho9 hD9 (by omega) (by omega) (by omega))
              have kD9 := ho9.within.blk kD (by omega)
              have HB9 := Lib.hid (HBF.out.only ho9 (by omega))
              clear hD9 ho9 cD fD lD kD
              have cD := kD9.cell
              have fD := kD9.free
              have lD := kD9.lt
              by_cases hy2 : y2 = 0
              · subst hy2
                go_wp2_with fail
                go_meet
                have hWt : Within D (D + 1) w9 (w9.setCell ⟨D, 3, none⟩ (.int .i64 2)) := Within.off _
                exact ⟨rfl, f, _, zs, W, 2, Lib.hid (kD9.set 3 _), Lib.hid (BldI.past hWt HB9.out (by omega)), Lib.hid (by omega), Lib.hid ⟨by omega, by omega⟩, Lib.hid (HL9.out.past hWt hW0 hgl lZT (by omega) hBhi (by omega))⟩
              · go_wp2_with fail
                go_meet
                exact ⟨rfl, f, _, zs, W, L, Lib.hid kD9, HB9, Lib.hid (by omega), Lib.hid ⟨by omega, by omega⟩, HL9⟩
          case rest =>
            obtain ⟨rfl, f2, pv2, zs2, W2, L2, HD2, HB2, HZ2, HF2, HLr⟩ := hcut
            clear HDv HBF HL8 HZL HBD
            obtain ⟨pva2, pvc2, rfl⟩ := HB2.out.sized
            have hz2 := HZ2.out
            have hf2 := HF2.out
            have hD2w := HD2.out.lt
            have hlz2 : hi ≤ wc.heap.size := HLr.out.2.2.1.1
            have cD := HD2.out.cell
            have lD := HD2.out.lt
            go_wp2_with fail
            refine (HN.out _ _ HLr.out.2.2.2.1 (by omega)).mono ?_
            rintro e w11 ⟨y4, rfl, hq0, hq1, hD11, ho11⟩
            have HL11 := Lib.hid (HLr.out.only ho11 hD11 (by omega) (by omega) (by omega))
            have kD11 := ho11.within.blk HD2.out (by omega)
            have HB11 := Lib.hid (HB2.out.only ho11 (by omega))
            have hs11 : wc.heap.size ≤ w11.heap.size := ho11.within.size
            clear hD11 ho11 HLr HD2 HB2 cD lD
            have cD := kD11.cell
            have fD := kD11.free
            have lD := kD11.lt
            go_upto_if 70 with fail
            go_cut [8] (fun s wx => s = .pointer (some ⟨D, 0, none⟩) ∧ ∃ (zs : List Int), Hid (Blk wx D #[.int .i64 kd, .slice pva2 zs2.length pvc2, .int .i64 W2, .int .i64 L2] 46) ∧ Hid (BldI wx f2 (f2 + 1) (.slice pva2 zs2.length pvc2) zs) ∧ Hid (zs.length = zs2.length) ∧ Hid (w11.heap.size ≤ wx.heap.size) ∧ Hid (Lad W0 g sv n w T N (T + 1) hi (.slice av ds.length cv) ds wx))
            case first =>
              by_cases hy4 : y4 = 0
              · subst hy4
                obtain ⟨k, hk⟩ : ∃ k, zs2.length = k + 2 := ⟨zs2.length - 2, by omega⟩
                have hk1 : k ≤ 1 := by omega
                obtain ⟨G, cap, cs, hv, hG, hBk, hcell⟩ := HB11.out.blk (by omega)
                obtain ⟨rfl, rfl⟩ : pva2 = some ⟨G, 0, none⟩ ∧ pvc2 = cap := by simpa using hv
                obtain ⟨x1, hx1⟩ : ∃ x, zs2[k]? = some x := ⟨zs2[k]'(by omega), List.getElem?_eq_getElem _⟩
                obtain ⟨x2, hx2⟩ : ∃ x, zs2[k + 1]? = some x := ⟨zs2[k + 1]'(by omega), List.getElem?_eq_getElem _⟩
                have hc1 := hcell k x1 hx1
                have hc2 := hcell (k + 1) x2 hx2
                have HC1 := Lib.hid hc1
                have HC2 := Lib.hid hc2
                have HBK := Lib.hid hBk
                have wk : IntKind.i64.wrap ((k : Int) + 1) = (k : Int) + 1 := by simp [IntKind.wrap, IntKind.bits, IntKind.signed]; omega
                have hto : ((k : Int) + 1).toNat = k + 1 := by omega
                have j1 : (0 : Int) ≤ (k : Int) := by omega
                have j2 : (k : Int) < ((k + 2 : Nat) : Int) := by omega
                have j3 : (k : Int) + 1 < ((k + 2 : Nat) : Int) := by omega
                have j4 : (0 : Int) ≤ (k : Int) + 1 := by omega
                have j5 : (k : Int) < (k : Int) + 2 := by omega
                have j6 : (k : Int) + 1 < (k : Int) + 2 := by omega
                clear hcell hc1 hc2 hBk hv hx1 hx2
                go_upto_region 21 with (go_at_call 74; refine (l28First_any kd W2 L2 _ k _ (by omega) _).mono ?_; rintro e w12 ⟨rfl, hb12⟩; have HL12 := Lib.hid (HL11.out.by hb12); have kD12 := Blk.by hb12 kD11; have HB12 := Lib.hid (HB11.out.by hb12); have kG12 := Blk.by hb12 HBK.out; have e1 := cell_by' hb12 HC1.out; have e2 := cell_by' hb12 HC2.out; have fG := kG12.free; have lG := kG12.lt; have cD12 := kD12.cell; have lD12 := kD12.lt; have hs12 := hb12.size)
                go_region
                all_goals
                  go_wp2_with fail
                  go_meet
                  have hWz : Within G (G + 1) w12 ((w12.setCell ⟨G, k, none⟩ (.int .i64 x2)).setCell ⟨G, k + 1, none⟩ (.int .i64 x1)) := (Within.off _).on (Within.off _)
                  exact ⟨rfl, (zs2.set k x2).set (k + 1) x1, Lib.hid (hWz.blk kD12 (by omega)), Lib.hid ((HB12.out.setAt k x2).setAt (k + 1) x1), Lib.hid (by simp), Lib.hid (by simpa using hs12), Lib.hid (Lad.by ((Below.refl _ _).drew) (HL12.out.past hWz hW0 hgl lZT (by omega) hBhi (by omega)))⟩
              · go_wp2_with fail
                go_meet
                exact ⟨rfl, zs2, Lib.hid kD11, HB11, Lib.hid rfl, Lib.hid (Nat.le_refl _), HL11⟩
            case rest =>
              obtain ⟨rfl, zs3, HD3, HB3, HZ3, HS3, HL3⟩ := hcut
              have hs3 := HS3.out
              have hz3 := HZ3.out
              clear HL11 kD11 HB11 cD fD lD
              have cD := HD3.out.cell
              have lD := HD3.out.lt
              have k3 := HL3.out.1
              have c3 := k3.cell
              have l3 := k3.lt
              have hl3 : hi ≤ wc.heap.size := HL3.out.2.2.1.1
              have hbf := HB3.out.1
              go_wp2_with (refine list_pushD (by rfl) _ _ (by rfl) (T + 1) hi (.slice av ds.length cv) ds (by rfl) (HL3.out.2.2.1.by blwT) wc.heap.size ⟨kd, zs3, W2, L2⟩ _ f2 (by rfl) (Blk.new _ rfl) (HB3.out.by ((Below.refl _ wc).alloc (Nat.le_refl _) _)) hBhi (by omega) (by simp; omega) (by omega) ?_; intro a8 c8 w8 hB8 hw8; have HB8 := Lib.hid hB8; have k58 := hw8.blk (k3.past (.cells #[.int .i64 kd, .slice pva2 zs2.length pvc2, .int .i64 W2, .int .i64 L2] 46)) (by omega); have c58 := k58.cell; have f58 := k58.free; have l58 := k58.lt; clear hB8)
              have hs8 := hw8.size
              simp only [World.size_alloc] at hs8
              have hbA : Below wc.heap.size wc (wc.alloc (.cells #[.int .i64 kd, .slice pva2 zs2.length pvc2, .int .i64 W2, .int .i64 L2] 46)) := (Below.refl _ wc).alloc (Nat.le_refl _) _
              have HD8 := Lib.hid (Src1.within hw8 (HL3.out.2.2.2.1.by hbA) (by omega) (by omega))
              have HZ8 := Lib.hid (hw8.blk (Blk.by hbA HL3.out.2.1) (by omega))
              have HW8 := Lib.hid ((HL3.out.2.2.2.2.alloc (.cells #[.int .i64 kd, .slice pva2 zs2.length pvc2, .int .i64 W2, .int .i64 L2] 46)).newerM hw8 (by omega))
              have HPN8 : Hid (∀ e ∈ ds ++ [(⟨kd, zs3, W2, L2⟩ : Dv)], 2 ≤ e.pins.length ∧ e.pins.length ≤ 3) := Lib.hid (by
                intro e he
                rcases List.mem_append.1 he with h | h
                · exact HPN.out e h
                · obtain rfl := List.mem_singleton.1 h; show 2 ≤ zs3.length ∧ zs3.length ≤ 3; omega)
              have HLE : Hid (Lad W0 g sv n w T N (T + 1) w8.heap.size (.slice a8 (ds.length + 1) c8) (ds ++ [(⟨kd, zs3, W2, L2⟩ : Dv)]) (w8.setCell ⟨T, 1, none⟩ (.slice a8 (ds.length + 1) c8))) := Lib.hid ⟨k58.set 1 _, HZ8.out.apart _ _ _ (by omega), by simpa using HB8.out.past (Within.off _) (.inl (by omega)), HD8.out.apart (by omega) (by omega), HW8.out.new _ _ _ (by omega)⟩
              exact ⟨⟨r, .slice a8 (ds.length + 1) c8, ds ++ [⟨kd, zs3, W2, L2⟩], w8.heap.size, Lib.hid (by first | rfl | (rw [wq])), Lib.hid (by simp; omega), Lib.hid (by omega), HPN8, HLE⟩, by simp [intOf] <;> omega⟩
    · obtain rfl : q = 0 := by omega
      have i1 : ¬ (0 : Int) < ((0 : Nat) : Int) := by omega
      have wN : IntKind.i64.wrap (N - 1) = N - 1 := by simp [IntKind.wrap, IntKind.bits, IntKind.signed]; omega
      have hdl : 0 < ds.length := by omega
      go_wp2_with fail
      refine (HN.out _ _ HL.out.2.2.2.1 (by omega)).mono ?_
      rintro e w5 ⟨z, rfl, hz0, hz1, hD5, ho5⟩
      have HL5 := Lib.hid (HL.out.only ho5 hD5 (by omega) (by omega) (by omega))
      have wz : IntKind.i64.wrap (1 + z) = 1 + z := by simp [IntKind.wrap, IntKind.bits, IntKind.signed]; omega
      have hs5 : wr.heap.size ≤ w5.heap.size := ho5.within.size
      clear hD5 ho5 HL c3 l3
      have k3 := HL5.out.1
      have c3 := k3.cell
      have f3 := k3.free
      have l3 := k3.lt
      go_wp2_with fail
      have hbA : Below (w5.setCell ⟨T, 2, none⟩ (.slice (some ⟨w5.heap.size, 0, none⟩) 2 2)).heap.size (w5.setCell ⟨T, 2, none⟩ (.slice (some ⟨w5.heap.size, 0, none⟩) 2 2)) ((w5.setCell ⟨T, 2, none⟩ (.slice (some ⟨w5.heap.size, 0, none⟩) 2 2)).alloc (.cells #[.string ⟨#[97]⟩, .int .i64 0, .string ⟨#[98]⟩, .int .i64 (1 + z)] 70)) := (Below.refl _ _).alloc (Nat.le_refl _) _
      have hWs : Within T (T + 1) w5 (w5.setCell ⟨T, 2, none⟩ (.slice (some ⟨w5.heap.size, 0, none⟩) 2 2)) := Within.off _
      have k36 : Blk ((w5.setCell ⟨T, 2, none⟩ (.slice (some ⟨w5.heap.size, 0, none⟩) 2 2)).alloc (.cells #[.string ⟨#[97]⟩, .int .i64 0, .string ⟨#[98]⟩, .int .i64 (1 + z)] 70)) T #[.int .i64 N, .slice av ds.length cv, (.slice (some ⟨w5.heap.size, 0, none⟩) 2 2)] 27 := (k3.set 2 _).past _
      have HZ6 := Lib.hid (Blk.by hbA (HL5.out.2.1.apart T 2 (.slice (some ⟨w5.heap.size, 0, none⟩) 2 2) (by omega)))
      have HBL6 := Lib.hid ((BldD.past hWs HL5.out.2.2.1 (.inl (by omega))).by hbA)
      have HD6 := Lib.hid ((HL5.out.2.2.2.1.apart (b := T) (o := 2) (v := (.slice (some ⟨w5.heap.size, 0, none⟩) 2 2)) (by omega) (by omega)).by hbA)
      have HW6 := Lib.hid ((HL5.out.2.2.2.2.new T 2 (.slice (some ⟨w5.heap.size, 0, none⟩) 2 2) (by omega)).alloc (.cells #[.string ⟨#[97]⟩, .int .i64 0, .string ⟨#[98]⟩, .int .i64 (1 + z)] 70))
      have kP : Blk ((w5.setCell ⟨T, 2, none⟩ (.slice (some ⟨w5.heap.size, 0, none⟩) 2 2)).alloc (.cells #[.string ⟨#[97]⟩, .int .i64 0, .string ⟨#[98]⟩, .int .i64 (1 + z)] 70)) w5.heap.size #[.string ⟨#[97]⟩, .int .i64 0, .string ⟨#[98]⟩, .int .i64 (1 + z)] 70 := Blk.new _ (by simp)
      have HPS0 : OwnPs ((w5.setCell ⟨T, 2, none⟩ (.slice (some ⟨w5.heap.size, 0, none⟩) 2 2)).alloc (.cells #[.string ⟨#[97]⟩, .int .i64 0, .string ⟨#[98]⟩, .int .i64 (1 + z)] 70)) w5.heap.size (w5.heap.size + 1) (.slice (some ⟨w5.heap.size, 0, none⟩) 2 2) [⟨⟨#[97]⟩, 0⟩, ⟨⟨#[98]⟩, 1 + z⟩] := .inr ⟨w5.heap.size, 2, _, rfl, ⟨Nat.le_refl _, Nat.lt_succ_self _⟩, by simp, by unfold maxLen; omega, kP, fun i x hx => by
        rcases (by have := (List.getElem?_eq_some_iff.1 hx).1; simp at this; omega : i = 0 ∨ i = 1) with rfl | rfl
        · simp at hx; subst hx; exact ⟨rfl, rfl⟩
        · simp at hx; subst hx; exact ⟨rfl, rfl⟩⟩
      have HPS6 := Lib.hid HPS0
      have hs6 : w5.heap.size + 1 ≤ ((w5.setCell ⟨T, 2, none⟩ (.slice (some ⟨w5.heap.size, 0, none⟩) 2 2)).alloc (.cells #[.string ⟨#[97]⟩, .int .i64 0, .string ⟨#[98]⟩, .int .i64 (1 + z)] 70)).heap.size := by simp
      have hTP : T < w5.heap.size := l3
      clear hbA hWs kP HPS0 c3 f3 l3 k3
      generalize ((w5.setCell ⟨T, 2, none⟩ (.slice (some ⟨w5.heap.size, 0, none⟩) 2 2)).alloc (.cells #[.string ⟨#[97]⟩, .int .i64 0, .string ⟨#[98]⟩, .int .i64 (1 + z)] 70)) = w6 at *
      obtain ⟨P, hP⟩ : ∃ P, w5.heap.size = P := ⟨_, rfl⟩
      (try rw [hP])
      rw [hP] at k36 HPS6 hs6 hTP hs5
      clear hP
      refine (HN.out _ _ HD6.out (by omega)).mono ?_
      rintro e w7 ⟨y, rfl, hy0, hy1, hD7, ho7⟩
      have hW7 := ho7.within
      have HD7 := Lib.hid hD7
      have k37 := hW7.blk k36 (by omega)
      have HZ7 := Lib.hid (hW7.blk HZ6.out (by omega))
      have HBL7 := Lib.hid (HBL6.out.past hW7 (.inl (by omega)))
      have HPS7 := Lib.hid (HPS6.out.past hW7 (.inr (by omega)))
      have HW7 := Lib.hid (HW6.out.on hW7)
      have hs7 := hW7.size
      have HSM : Hid (Small ⟨N, ds, [⟨⟨#[97]⟩, 0⟩, ⟨⟨#[98]⟩, 1 + z⟩]⟩) := Lib.hid ⟨⟨by show -1 ≤ N; omega, by show N ≤ 25; omega⟩, by show ds.length ≤ 10; omega, fun d hd => by have := HPN.out d hd; omega, by simp, by
        intro e he
        simp at he
        rcases he with rfl | rfl
        · exact ⟨by show (⟨#[97]⟩ : ByteArray).size ≤ _; decide, by show Fits 0; exact ⟨by omega, by omega⟩⟩
        · exact ⟨by show (⟨#[98]⟩ : ByteArray).size ≤ _; decide, by show Fits (1 + z); exact ⟨by omega, by omega⟩⟩⟩
      clear hD7 ho7 hW7 k36 HZ6 HBL6 HPS6 HD6 HW6 HL5
      have c7 := k37.cell
      have l7 := k37.lt
      by_cases hy : y = 0
      · subst hy
        obtain ⟨b, rfl, hb1, hb2⟩ := HBL7.out.ad hdl
        obtain ⟨x, hx⟩ : ∃ x, ds[0]? = some x := ⟨ds[0]'hdl, List.getElem?_eq_getElem _⟩
        have hdi : (0 : Int) < (ds.length : Int) := by omega
        have HSM2x : ∀ u : Int, Hid (Small ⟨N, ds.set 0 ⟨x.kind, x.pins, u, 1⟩, [⟨⟨#[97]⟩, 0⟩, ⟨⟨#[98]⟩, 1 + z⟩]⟩) := fun u => Lib.hid ⟨HSM.out.1, by simp; omega, by
          intro e he
          rcases List.mem_or_eq_of_mem_set he with h | rfl
          · have := HPN.out e h; omega
          · have := HPN.out x (List.mem_of_getElem? hx); show 1 ≤ x.pins.length ∧ x.pins.length ≤ 100; omega, HSM.out.2.2.2⟩
        have HSM2X := Lib.hid HSM2x
        have HX := Lib.hid hx
        clear HSM2x hx
        go_upto_region 26 with fail
        go_region_law
          (go_simp; go_at_call 11; refine (HN.out _ _ (HD7.out.by blwT) (by omega)).mono ?_; rintro e w8 ⟨zz, rfl, hq0, hq1, hD8, ho8⟩; have HD8 := Lib.hid hD8; have hW8 := ho8.within; have hs8 := hW8.size; have hs8' : w7.heap.size ≤ w8.heap.size := (by simp at hs8 <;> omega); have k38 := hW8.blk (Blk.by (w := w7) blwT k37) (by omega); have c38 := k38.cell; have l38 := k38.lt; have HZ8 := Lib.hid (hW8.blk (Blk.by (w := w7) blwT HZ7.out) (by omega)); have HBL8 := Lib.hid ((HBL7.out.by (w := w7) blwT).only ho8 (by omega)); have HPS8 := Lib.hid ((HPS7.out.by (w := w7) blwT).past hW8 (.inr (by omega))); (obtain ⟨sx, e1, e2, e3, e4, hSx⟩ := HBL8.out.at 0 x HX.out); (try simp only [Nat.zero_mul, Nat.zero_add] at e1 e2 e3 e4); have fr := HBL8.out.fr hdl; have lX := lt_of_cell e1; (obtain ⟨Z, rfl⟩ : ∃ Z : Nat, zz = Z := ⟨zz.toNat, by omega⟩); have hZi : (Z : Int) < 3 := (by omega); have hZj : (0 : Int) ≤ (Z : Int) := (by omega); (obtain ⟨u, hu⟩ : ∃ u : Int, (#[.int .i64 999999, .int .i64 1000000, .int .i64 500001] : Array Value)[Z]? = some (.int .i64 u) := (by rcases (by omega : Z = 0 ∨ Z = 1 ∨ Z = 2) with rfl | rfl | rfl <;> exact ⟨_, rfl⟩)); (try (refine with_fact (p := Blk w8 w7.heap.size #[.int .i64 999999, .int .i64 1000000, .int .i64 500001] 2) (hW8.blk ?_ (by omega)) ?_; (focus ((repeat (first | (with_reducible assumption) | (with_reducible refine Blk.drewN ?_ _) | (with_reducible refine Blk.drew ?_) | ((with_reducible refine Blk.new _ ?_); focus (first | omega | (simp; done) | (simp; omega))) | (with_reducible refine Blk.past ?_ _) | ((with_reducible refine Blk.apart ?_ _ _ _ ?_); rotate_left; focus (first | omega | (simp; done) | (simp; omega))) | (with_reducible refine Blk.by (by assumption) ?_))); done)); intro kL8; have hu' : w8.cell? ⟨w7.heap.size, Z, none⟩ = some (.int .i64 u) := (by rw [kL8.cell]; exact hu); have lu := kL8.lt)); have HW8 := Lib.hid (HW7.out.on (Within.onB g (g + 1) blwT hW8)); clear hW8 ho8 hD8; dsimp only at lX ⊢)
        all_goals
          have HOD : Hid (OwnDs ((w8.setCell ⟨b, 2, none⟩ (.int .i64 u)).setCell ⟨b, 3, none⟩ (.int .i64 1)) (T + 1) hi (.slice (some ⟨b, 0, none⟩) ds.length cv) (ds.set 0 ⟨x.kind, x.pins, u, 1⟩)) := Lib.hid (by
            have q1 := HBL8.out.own.setNum 0 x HX.out 2 u ⟨x.kind, x.pins, u, x.len⟩ (by simp)
            have q2 := q1.setNum 0 ⟨x.kind, x.pins, u, x.len⟩ (by rw [List.getElem?_set]; simp [hdl]) 3 1 ⟨x.kind, x.pins, u, 1⟩ (by simp)
            simpa using q2)
          have HSM2 := HSM2X.out u
          go_upto_region 28 with fail
          first
            | (
               with_reducible refine atWorld ((w8.setCell ⟨b, 2, none⟩ (.int .i64 u)).setCell ⟨b, 3, none⟩ (.int .i64 1)) ?_
               have kE : Blk ((w8.setCell ⟨b, 2, none⟩ (.int .i64 u)).setCell ⟨b, 3, none⟩ (.int .i64 1)) T #[.int .i64 N, (.slice (some ⟨b, 0, none⟩) ds.length cv), (.slice (some ⟨P, 0, none⟩) 2 2)] 27 := (k38.apart b _ _ (by omega)).apart b _ _ (by omega)
               have HZE : Hid (Blk ((w8.setCell ⟨b, 2, none⟩ (.int .i64 u)).setCell ⟨b, 3, none⟩ (.int .i64 1)) w.heap.size #[.int .i64 0, .slice none 0 0, .slice none 0 0] 27) := Lib.hid ((HZ8.out.apart b _ _ (by omega)).apart b _ _ (by omega))
               have HDE : Hid (Src1 W0 g sv n ((w8.setCell ⟨b, 2, none⟩ (.int .i64 u)).setCell ⟨b, 3, none⟩ (.int .i64 1))) := Lib.hid ((HD8.out.apart (b := b) (by omega) (by omega)).apart (b := b) (by omega) (by omega))
               have HWE : Hid (Within g (g + 1) w ((w8.setCell ⟨b, 2, none⟩ (.int .i64 u)).setCell ⟨b, 3, none⟩ (.int .i64 1))) := Lib.hid ((HW8.out.new b _ _ (by omega)).new b _ _ (by omega))
               have HDO : Hid (∃ lo hi, w.heap.size < lo ∧ OwnDs ((w8.setCell ⟨b, 2, none⟩ (.int .i64 u)).setCell ⟨b, 3, none⟩ (.int .i64 1)) lo hi (.slice (some ⟨b, 0, none⟩) ds.length cv) (ds.set 0 ⟨x.kind, x.pins, u, 1⟩)) := Lib.hid ⟨T + 1, hi, by omega, HOD.out⟩
               have HPO2 : Hid (∃ lo hi, w.heap.size < lo ∧ OwnPs ((w8.setCell ⟨b, 2, none⟩ (.int .i64 u)).setCell ⟨b, 3, none⟩ (.int .i64 1)) lo hi (.slice (some ⟨P, 0, none⟩) 2 2) [⟨⟨#[97]⟩, 0⟩, ⟨⟨#[98]⟩, 1 + z⟩]) := Lib.hid ⟨P, P + 1, by omega, (HPS8.out.past (Within.off _) (.inr (by omega))).past (Within.off _) (.inr (by omega))⟩
               clear k38 c38 l38 e1 e2 e3 e4 hSx fr
               generalize ((w8.setCell ⟨b, 2, none⟩ (.int .i64 u)).setCell ⟨b, 3, none⟩ (.int .i64 1)) = wE at *
               have cT := kE.cell
               have lT := kE.lt
               have kZE := HZE.out
               have cZ := kZE.cell
               have fZ := kZE.free
               have lZ' := kZE.lt
               go_wp2
               refine bodyPost_ret (v := .agg #[.int .i64 N, (.slice (some ⟨b, 0, none⟩) ds.length cv), (.slice (some ⟨P, 0, none⟩) 2 2)]) (by simp [results, Tryz.results36, go_sem, *]) rfl ?_
               exact ⟨_, ⟨N, (ds.set 0 ⟨x.kind, x.pins, u, 1⟩), [⟨⟨#[97]⟩, 0⟩, ⟨⟨#[98]⟩, 1 + z⟩]⟩, rfl, Lib.hid (nlv_set3 _ _ _ HDO.out HPO2.out), HSM2, Lib.hid (((HDE.out.apart (by omega) (by omega)).apart (by omega) (by omega)).apart (by omega) (by omega)), Lib.hid (((HWE.out.new _ _ _ (by omega)).new _ _ _ (by omega)).new _ _ _ (by omega))⟩
              )
            | (
               with_reducible refine atWorld (((w8.setCell ⟨b, 2, none⟩ (.int .i64 u)).setCell ⟨b, 3, none⟩ (.int .i64 1)).alloc (.cells #[.int .i64 999999, .int .i64 1000000, .int .i64 500001] 2)) ?_
               have kE : Blk (((w8.setCell ⟨b, 2, none⟩ (.int .i64 u)).setCell ⟨b, 3, none⟩ (.int .i64 1)).alloc (.cells #[.int .i64 999999, .int .i64 1000000, .int .i64 500001] 2)) T #[.int .i64 N, (.slice (some ⟨b, 0, none⟩) ds.length cv), (.slice (some ⟨P, 0, none⟩) 2 2)] 27 := ((k38.apart b _ _ (by omega)).apart b _ _ (by omega)).past _
               have HZE : Hid (Blk (((w8.setCell ⟨b, 2, none⟩ (.int .i64 u)).setCell ⟨b, 3, none⟩ (.int .i64 1)).alloc (.cells #[.int .i64 999999, .int .i64 1000000, .int .i64 500001] 2)) w.heap.size #[.int .i64 0, .slice none 0 0, .slice none 0 0] 27) := Lib.hid (((HZ8.out.apart b _ _ (by omega)).apart b _ _ (by omega)).past _)
               have HDE : Hid (Src1 W0 g sv n (((w8.setCell ⟨b, 2, none⟩ (.int .i64 u)).setCell ⟨b, 3, none⟩ (.int .i64 1)).alloc (.cells #[.int .i64 999999, .int .i64 1000000, .int .i64 500001] 2))) := Lib.hid (((HD8.out.apart (b := b) (by omega) (by omega)).apart (b := b) (by omega) (by omega)).by ((Below.refl _ _).alloc (Nat.le_refl _) _))
               have HWE : Hid (Within g (g + 1) w (((w8.setCell ⟨b, 2, none⟩ (.int .i64 u)).setCell ⟨b, 3, none⟩ (.int .i64 1)).alloc (.cells #[.int .i64 999999, .int .i64 1000000, .int .i64 500001] 2))) := Lib.hid (((HW8.out.new b _ _ (by omega)).new b _ _ (by omega)).alloc _)
               have HDO : Hid (∃ lo hi, w.heap.size < lo ∧ OwnDs (((w8.setCell ⟨b, 2, none⟩ (.int .i64 u)).setCell ⟨b, 3, none⟩ (.int .i64 1)).alloc (.cells #[.int .i64 999999, .int .i64 1000000, .int .i64 500001] 2)) lo hi (.slice (some ⟨b, 0, none⟩) ds.length cv) (ds.set 0 ⟨x.kind, x.pins, u, 1⟩)) := Lib.hid ⟨T + 1, hi, by omega, OwnDs.by ((Below.refl _ _).alloc (Nat.le_refl _) _) HOD.out⟩
               have HPO2 : Hid (∃ lo hi, w.heap.size < lo ∧ OwnPs (((w8.setCell ⟨b, 2, none⟩ (.int .i64 u)).setCell ⟨b, 3, none⟩ (.int .i64 1)).alloc (.cells #[.int .i64 999999, .int .i64 1000000, .int .i64 500001] 2)) lo hi (.slice (some ⟨P, 0, none⟩) 2 2) [⟨⟨#[97]⟩, 0⟩, ⟨⟨#[98]⟩, 1 + z⟩]) := Lib.hid ⟨P, P + 1, by omega, OwnPs.by ((Below.refl _ _).alloc (Nat.le_refl _) _) ((HPS8.out.past (Within.off _) (.inr (by omega))).past (Within.off _) (.inr (by omega)))⟩
               clear k38 c38 l38 e1 e2 e3 e4 hSx fr
               generalize (((w8.setCell ⟨b, 2, none⟩ (.int .i64 u)).setCell ⟨b, 3, none⟩ (.int .i64 1)).alloc (.cells #[.int .i64 999999, .int .i64 1000000, .int .i64 500001] 2)) = wE at *
               have cT := kE.cell
               have lT := kE.lt
               have kZE := HZE.out
               have cZ := kZE.cell
               have fZ := kZE.free
               have lZ' := kZE.lt
               go_wp2
               refine bodyPost_ret (v := .agg #[.int .i64 N, (.slice (some ⟨b, 0, none⟩) ds.length cv), (.slice (some ⟨P, 0, none⟩) 2 2)]) (by simp [results, Tryz.results36, go_sem, *]) rfl ?_
               exact ⟨_, ⟨N, (ds.set 0 ⟨x.kind, x.pins, u, 1⟩), [⟨⟨#[97]⟩, 0⟩, ⟨⟨#[98]⟩, 1 + z⟩]⟩, rfl, Lib.hid (nlv_set3 _ _ _ HDO.out HPO2.out), HSM2, Lib.hid (((HDE.out.apart (by omega) (by omega)).apart (by omega) (by omega)).apart (by omega) (by omega)), Lib.hid (((HWE.out.new _ _ _ (by omega)).new _ _ _ (by omega)).new _ _ _ (by omega))⟩
              )
      · have HDO : Hid (∃ lo hi, w.heap.size < lo ∧ OwnDs w7 lo hi (.slice av ds.length cv) ds) := Lib.hid ⟨T + 1, hi, by omega, HBL7.out.own⟩
        have HPO2 : Hid (∃ lo hi, w.heap.size < lo ∧ OwnPs w7 lo hi (.slice (some ⟨P, 0, none⟩) 2 2) [⟨⟨#[97]⟩, 0⟩, ⟨⟨#[98]⟩, 1 + z⟩]) := Lib.hid ⟨P, P + 1, by omega, HPS7.out⟩
        have kE := k37
        have HZE := HZ7
        have HDE := HD7
        have HWE := HW7
        have cT := kE.cell
        have lT := kE.lt
        have kZE := HZE.out
        have cZ := kZE.cell
        have fZ := kZE.free
        have lZ' := kZE.lt
        go_wp2
        refine bodyPost_ret (v := .agg #[.int .i64 N, .slice av ds.length cv, (.slice (some ⟨P, 0, none⟩) 2 2)]) (by simp [results, Tryz.results36, go_sem, *]) rfl ?_
        exact ⟨_, ⟨N, ds, [⟨⟨#[97]⟩, 0⟩, ⟨⟨#[98]⟩, 1 + z⟩]⟩, rfl, Lib.hid (nlv_set3 _ _ _ HDO.out HPO2.out), HSM, Lib.hid (((HDE.out.apart (by omega) (by omega)).apart (by omega) (by omega)).apart (by omega) (by omega)), Lib.hid (((HWE.out.new _ _ _ (by omega)).new _ _ _ (by omega)).new _ _ _ (by omega))⟩
/- The draw of MergePair's arguments: some small netlist and two numbers. -/
theorem NlO.s1 {m : Nat} {w : World} {s : Value} {ds : List Dv} (h : ∃ lo hi, m ≤ lo ∧ OwnDs w lo hi s ds) : ∃ a c, s = .slice a ds.length c := by
  obtain ⟨l, h, r, o⟩ := h
  exact o.sl.sized
theorem NlO.s2 {m : Nat} {w : World} {s : Value} {ps : List Pt} (h : ∃ lo hi, m ≤ lo ∧ OwnPs w lo hi s ps) : ∃ a c, s = .slice a ps.length c := by
  obtain ⟨l, h, r, o⟩ := h
  exact o.sl.sized
set_option maxRecDepth 100000 in
set_option maxHeartbeats 2000000 in
theorem l28DrawNetlist_any (W0 : World) (g : Nat) (sv : Value) (n : Nat) (w : World) (hD : Src1 W0 g sv n w) :
    Calls Tryz.prog 10 #[.pointer (some ⟨g, 0, none⟩)] w fun e w' => ∃ (v : Value) (x : Nl), e = .returned v ∧ Hid (NlO w.heap.size w' v x) ∧ Hid (Small x) ∧ Hid (Src1 W0 g sv n w') ∧ Hid (Within g (g + 1) w w') := by
  have HN := Lib.hid (fun q w h hq => l01Next_any W0 g sv n q w h hq)
  have HA := Lib.hid (fun w h => l27DrawNetlist_any W0 g sv n w h)
  have HL := Lib.hid (fun w h => l28DrawLadder_any W0 g sv n w h)
  have hgl := hD.lt
  have hW0 : W0.heap.size ≤ g := hD.1
  have HD := Lib.hid hD
  clear hD
  go_enter Tryz.func10, Tryz.ntmps10
  go_wp2_with fail
  refine (HN.out _ _ (HD.out.by blwT) (by omega)).mono ?_
  rintro e w1 ⟨y, rfl, hy0, hy1, hD1, ho1⟩
  have kZ0 : Blk (w.alloc (.cells #[.int .i64 0, .slice none 0 0, .slice none 0 0] 27)) w.heap.size #[.int .i64 0, .slice none 0 0, .slice none 0 0] 27 := Blk.new _ rfl
  have kZ := ho1.within.blk kZ0 (by omega)
  have HW1 := Lib.hid (((Within.refl g (g + 1) w).alloc (.cells #[.int .i64 0, .slice none 0 0, .slice none 0 0] 27)).on ho1.within)
  have HD1 := Lib.hid hD1
  have lZ := kZ.lt
  clear kZ0 hD1 ho1
  by_cases hy : y = 0
  · subst hy
    go_wp2_with (go_at_call 35; refine (HA.out _ HD1.out).mono ?_; rintro e w2 ⟨v, x, rfl, HO, HS, HD2, HW2⟩; (obtain ⟨s1, s2, rfl, r1, r2⟩ := HO.out); have kZ2 := HW2.out.blk kZ (by omega); have cZ := kZ2.cell; have fZ := kZ2.free; have lZ2 := kZ2.lt; (obtain ⟨a1, c1, rfl⟩ := NlO.s1 r1); (obtain ⟨a2, c2, rfl⟩ := NlO.s2 r2))
    refine bodyPost_ret (v := .agg #[.int .i64 x.nets, .slice a1 x.ds.length c1, .slice a2 x.ps.length c2]) (by simp [results, Tryz.results10, go_sem, *]) rfl ?_
    exact ⟨_, x, rfl, Lib.hid (((((HO.out.low (show w.heap.size + 1 ≤ w1.heap.size by omega)).past (Within.off _) (by omega)).past (Within.off _) (by omega)).past (Within.off _) (by omega)).low (by omega)), HS, Lib.hid (((HD2.out.apart (by omega) (by omega)).apart (by omega) (by omega)).apart (by omega) (by omega)), Lib.hid ((((HW1.out.on HW2.out).new _ _ _ (by omega)).new _ _ _ (by omega)).new _ _ _ (by omega))⟩
  · go_wp2_with (go_at_call 36; refine (HL.out _ HD1.out).mono ?_; rintro e w2 ⟨v, x, rfl, HO, HS, HD2, HW2⟩; (obtain ⟨s1, s2, rfl, r1, r2⟩ := HO.out); have kZ2 := HW2.out.blk kZ (by omega); have cZ := kZ2.cell; have fZ := kZ2.free; have lZ2 := kZ2.lt; (obtain ⟨a1, c1, rfl⟩ := NlO.s1 r1); (obtain ⟨a2, c2, rfl⟩ := NlO.s2 r2))
    refine bodyPost_ret (v := .agg #[.int .i64 x.nets, .slice a1 x.ds.length c1, .slice a2 x.ps.length c2]) (by simp [results, Tryz.results10, go_sem, *]) rfl ?_
    exact ⟨_, x, rfl, Lib.hid (((((HO.out.low (show w.heap.size + 1 ≤ w1.heap.size by omega)).past (Within.off _) (by omega)).past (Within.off _) (by omega)).past (Within.off _) (by omega)).low (by omega)), HS, Lib.hid (((HD2.out.apart (by omega) (by omega)).apart (by omega) (by omega)).apart (by omega) (by omega)), Lib.hid ((((HW1.out.on HW2.out).new _ _ _ (by omega)).new _ _ _ (by omega)).new _ _ _ (by omega))⟩
def Dms (W0 : World) (g : Nat) (sv : Value) (n : Nat) (w : World) (T : Nat) (v : Value) (cs : Array Value) (x : Nl) (wx : World) : Prop :=
  Blk wx T cs 27 ∧ Blk wx w.heap.size #[.int .i64 0, .slice none 0 0, .slice none 0 0] 27 ∧ NlO (g + 1) wx v x ∧ Src1 W0 g sv n wx ∧ Below w.heap.size w wx
section
variable {W0 : World} {g : Nat} {sv : Value} {n : Nat} {w : World} {T : Nat} {v : Value} {cs : Array Value} {x : Nl} {wx wy : World}
theorem Dms.by (hb : Below wx.heap.size wx wy) (h : Dms W0 g sv n w T v cs x wx) : Dms W0 g sv n w T v cs x wy :=
  ⟨Blk.by hb h.1, Blk.by hb h.2.1, h.2.2.1.by hb, h.2.2.2.1.by hb, below_on hb h.2.2.2.2⟩
theorem Dms.only (h : Dms W0 g sv n w T v cs x wx) (ho : Only g wx wy) (hD : Src1 W0 g sv n wy) (h1 : w.heap.size < g) (h2 : g < T) : Dms W0 g sv n w T v cs x wy := by
  exact ⟨ho.within.blk h.1 (by omega), ho.within.blk h.2.1 (by omega), h.2.2.1.past ho.within (by omega), hD, ho.within.below h.2.2.2.2 (by omega)⟩
end
set_option maxRecDepth 100000 in
set_option maxHeartbeats 2000000 in
theorem drawNr_any (v0 : Value) (n : Nat) (w : World) (h : Bytes w v0 n) (hn : n ≤ 4096) :
    Calls Tryz.prog 5 #[v0] w fun e w' => ∃ (v : Value) (x : Nl) (a b : ByteArray), e = .returned (.tuple #[v, .string a, .string b]) ∧ Hid (NlV w' v x) ∧ Hid (Small x) ∧ Below w.heap.size w w' := by
  have HB := Lib.hid h
  obtain ⟨w0, hw0⟩ : ∃ z, z = w.alloc (.cells #[.int .i64 0, .slice none 0 0, .slice none 0 0] 27) := ⟨_, rfl⟩
  have kR0 : Blk w0 w.heap.size #[.int .i64 0, .slice none 0 0, .slice none 0 0] 27 := by rw [hw0]; exact Blk.new _ rfl
  have hb0 : Below w.heap.size w w0 := by rw [hw0]; exact (Below.refl _ w).alloc (Nat.le_refl _) _
  have hs0 : w0.heap.size = w.heap.size + 1 := by rw [hw0]; simp
  have hf := l01From_any v0 n w0 (HB.out.by hb0) hn
  obtain ⟨G, hG⟩ : ∃ G, w0.heap.size = G := ⟨_, rfl⟩
  rw [hG] at hf hs0
  have HF := Lib.hid hf
  have HD := Lib.hid (fun w h => l28DrawNetlist_any w0 G v0 n w h)
  have HN := Lib.hid (fun m w h hm => l01Next_any w0 G v0 n m w h hm)
  have hGw : w.heap.size < G := by omega
  have HG := Lib.hid hG
  clear h hf hs0 hG
  go_enter Tryz.func5, Tryz.ntmps5
  go_wp2_with fail
  (try rw [← hw0])
  clear hw0
  refine HF.out.mono ?_
  rintro e w1 ⟨rfl, hD1, hb1⟩
  have kR1 : Blk w1 w.heap.size _ 27 := Blk.by (by rw [HG.out]; exact hb1) kR0
  have HD1 := Lib.hid hD1
  have hG1 := hD1.lt
  clear hD1 hb1
  go_wp2_with fail
  refine (HD.out _ HD1.out).mono ?_
  rintro e w2 ⟨v, x, rfl, HO, HS, HD2, HW2⟩
  obtain ⟨s1, s2, rfl, r1, r2⟩ := HO.out
  obtain ⟨a1, c1, rfl⟩ := (show ∃ a c, s1 = .slice a x.ds.length c by obtain ⟨l, h, r, o⟩ := r1; exact o.sl.sized)
  obtain ⟨a2, c2, rfl⟩ := (show ∃ a c, s2 = .slice a x.ps.length c by obtain ⟨l, h, r, o⟩ := r2; exact o.sl.sized)
  have kR2 := HW2.out.blk kR1 (by omega)
  have hb2 : Below w.heap.size w w2 := below_on HD2.out.2.1 hb0
  have hsz2 := HW2.out.size
  have hal : Below w2.heap.size w2 (w2.alloc (.cells #[.int .i64 x.nets, .slice a1 x.ds.length c1, .slice a2 x.ps.length c2] 27)) := (Below.refl _ w2).alloc (Nat.le_refl _) _
  have kA3 : Blk (w2.alloc (.cells #[.int .i64 x.nets, .slice a1 x.ds.length c1, .slice a2 x.ps.length c2] 27)) w2.heap.size #[.int .i64 x.nets, .slice a1 x.ds.length c1, .slice a2 x.ps.length c2] 27 := Blk.new _ rfl
  have kR3 := Blk.by hal kR2
  have HO3 := Lib.hid ((HO.out.low (show G + 1 ≤ w1.heap.size by omega)).by hal)
  have HD3 := Lib.hid (HD2.out.by hal)
  have hb3 := below_on hal hb2
  clear HO HD2 HW2 kR1 r1 r2 HD1 hb0 kR0 hal kR2 hb2
  go_wp2_with fail
  generalize w2.alloc (.cells #[.int .i64 x.nets, .slice a1 x.ds.length c1, .slice a2 x.ps.length c2] 27) = w3 at *
  generalize w2.heap.size = A at *
  refine (HN.out 12 _ HD3.out (by omega)).mono ?_
  rintro e w4 ⟨y, rfl, hy0, hy1, hD4, ho4⟩
  have kA4 := ho4.within.blk kA3 (by omega)
  have kR4 := ho4.within.blk kR3 (by omega)
  have HO4 := Lib.hid (HO3.out.past ho4.within (Nat.le_refl _))
  have hb4 := ho4.within.below hb3 (by omega)
  have HNL := Lib.hid ((((HO4.out.low (show w.heap.size + 1 ≤ G + 1 by omega)).past (Within.off (g := w.heap.size) (o := 0) (.int .i64 x.nets)) (Nat.le_refl _)).past (Within.off (g := w.heap.size) (o := 1) (.slice a1 x.ds.length c1)) (Nat.le_refl _)).past (Within.off (g := w.heap.size) (o := 2) (.slice a2 x.ps.length c2)) (Nat.le_refl _))
  have qA := kA4.cell
  have lA := kA4.lt
  have qR := kR4.cell
  have fR := kR4.free
  have lR := kR4.lt
  clear hD4 ho4 HO3 HD3 kA3 kR3 hb3
  by_cases h0 : y = 0
  · subst h0
    clear hy0 hy1
    go_wp2
    refine bodyPost_ret (v := .tuple #[.agg #[.int .i64 x.nets, .slice a1 x.ds.length c1, .slice a2 x.ps.length c2], .string ⟨#[97]⟩, .string ⟨#[99]⟩]) (by simp [results, Tryz.results5, go_sem, *]) rfl ⟨_, x, _, _, rfl, Lib.hid HNL.out.nl, HS, ?_⟩
    repeat (first | (with_reducible exact hb4) | ((with_reducible refine Below.setCell ?_ ?_ _); rotate_left; focus (simp; try omega)))
  · have e1 : (y == 0) = false := by simpa using h0
    clear h0 hy0 hy1
    go_wp2
    refine bodyPost_ret (v := .tuple #[.agg #[.int .i64 x.nets, .slice a1 x.ds.length c1, .slice a2 x.ps.length c2], .string ⟨#[97]⟩, .string ⟨#[98]⟩]) (by simp [results, Tryz.results5, go_sem, *]) rfl ⟨_, x, _, _, rfl, Lib.hid HNL.out.nl, HS, ?_⟩
    repeat (first | (with_reducible exact hb4) | ((with_reducible refine Below.setCell ?_ ?_ _); rotate_left; focus (simp; try omega)))
theorem sgn_cases (a b : Int) : (a < b ∧ sgn a b = -1) ∨ (a = b ∧ sgn a b = 0) ∨ (b < a ∧ sgn a b = 1) := by
  rcases Int.lt_trichotomy a b with h | h | h
  · exact .inl ⟨h, sgn_lt h⟩
  · exact .inr (.inl ⟨h, sgn_eq h⟩)
  · exact .inr (.inr ⟨h, sgn_gt h⟩)
theorem lcmp_nn : lcmp [] [] = 0 := rfl
theorem lcmp_nc (b : Int) (s : List Int) : lcmp [] (b :: s) = -1 := rfl
theorem lcmp_cn (a : Int) (r : List Int) : lcmp (a :: r) [] = 1 := rfl
theorem lcmp_cc (a b : Int) (r s : List Int) : lcmp (a :: r) (b :: s) = if sgn a b = 0 then lcmp r s else sgn a b := rfl
theorem lcmp_flip : ∀ (a b : List Int), lcmp a b = - lcmp b a
  | [], [] => by simp [lcmp_nn]
  | [], _ :: _ => by rw [lcmp_nc, lcmp_cn]
  | _ :: _, [] => by rw [lcmp_nc, lcmp_cn]; rfl
  | a :: r, b :: s => by
    have ih := lcmp_flip r s
    rw [lcmp_cc, lcmp_cc]
    rcases sgn_cases a b with ⟨h, e⟩ | ⟨h, e⟩ | ⟨h, e⟩
    · rw [e, sgn_gt h]; simp
    · subst h; rw [e]; simpa using ih
    · rw [e, sgn_lt h]; simp
theorem lcmp_ntrans : ∀ (a b c : List Int), 0 ≤ lcmp a b → 0 ≤ lcmp b c → 0 ≤ lcmp a c
  | [], [], c, _, h => h
  | [], _ :: _, _, h, _ => by simp [lcmp_nc] at h
  | _ :: _, [], [], _, _ => by simp [lcmp_cn]
  | _ :: _, [], _ :: _, _, h => by simp [lcmp_nc] at h
  | _ :: _, _ :: _, [], _, _ => by simp [lcmp_cn]
  | a :: r, b :: s, c :: t, h1, h2 => by
    rw [lcmp_cc] at *
    rcases sgn_cases a b with ⟨h, e⟩ | ⟨h, e⟩ | ⟨h, e⟩ <;> rcases sgn_cases b c with ⟨h', e'⟩ | ⟨h', e'⟩ | ⟨h', e'⟩ <;> rw [e] at h1 <;> rw [e'] at h2 <;> simp at h1 h2
    · subst h; rw [e']; simpa using lcmp_ntrans r s t h1 h2
    · subst h; rw [e']; simp
    · subst h'; rw [e]; simp
    · rw [sgn_gt (by omega)]; simp
theorem perm_of_mem {α : Type} [DecidableEq α] : ∀ (l r : List α), l.Nodup → r.Nodup → (∀ z, z ∈ l ↔ z ∈ r) → l.Perm r
  | [], r, _, _, h => by
    cases r with
    | nil => exact List.Perm.nil
    | cons a s => exact absurd ((h a).2 (by simp)) (by simp)
  | a :: l, r, hn, hr, h => by
    rw [List.nodup_cons] at hn
    have ha : a ∈ r := (h a).1 (by simp)
    have hp := List.perm_cons_erase ha
    have hre : (a :: r.erase a).Nodup := hp.nodup_iff.1 hr
    rw [List.nodup_cons] at hre
    refine (List.Perm.cons a (perm_of_mem l (r.erase a) hn.2 hre.2 (fun z => ?_))).trans hp.symm
    by_cases e : z = a
    · subst e; simp [hn.1, hre.1]
    · rw [List.mem_erase_of_ne e, ← h z]; simp [e]
def ddpA {α : Type} [DecidableEq α] (p : α) : List α → List α
  | [] => []
  | b :: l => if b = p then ddpA b l else b :: ddpA b l
def ddp {α : Type} [DecidableEq α] : List α → List α
  | [] => []
  | a :: l => a :: ddpA a l
theorem mem_ddpA {α : Type} [DecidableEq α] (p : α) (l : List α) (z : α) : z = p ∨ z ∈ ddpA p l ↔ z = p ∨ z ∈ l := by
  induction l generalizing p with
  | nil => simp [ddpA]
  | cons b l ih =>
    unfold ddpA
    by_cases h : b = p
    · subst h
      rw [if_pos rfl, ih b]; simp
    · rw [if_neg h, List.mem_cons, List.mem_cons, ih b]
theorem mem_ddp {α : Type} [DecidableEq α] (l : List α) (z : α) : z ∈ ddp l ↔ z ∈ l := by
  cases l with
  | nil => simp [ddp]
  | cons a l => simp only [ddp, List.mem_cons]; exact mem_ddpA a l z
/- What a walk reads of a slice of slices. -/
def LlSl (w : World) (sv : Value) (ls : List (List Int)) : Prop :=
  (∃ a c, sv = .slice a 0 c ∧ ls = []) ∨ ∃ b off cap, sv = .slice (some ⟨b, off, none⟩) ls.length cap ∧ ls.length ≤ cap ∧ cap ≤ maxLen ∧ ∀ (i : Nat) (xs : List Int), ls[i]? = some xs → ∃ s, w.cell? ⟨b, off + i, none⟩ = some s ∧ IntSl w s xs
theorem LlSl.by {w w1 : World} {sv : Value} {ls : List (List Int)} (hb : Below w.heap.size w w1) (h : LlSl w sv ls) : LlSl w1 sv ls := by
  rcases h with h | ⟨b, off, cap, h1, h2, h3, h4⟩
  · exact .inl h
  · refine .inr ⟨b, off, cap, h1, h2, h3, fun i xs hx => ?_⟩
    obtain ⟨s, a, b⟩ := h4 i xs hx
    exact ⟨s, cell_by' hb a, b.by hb⟩
theorem LlSl.sized {w : World} {sv : Value} {ls : List (List Int)} (h : LlSl w sv ls) : ∃ a c, sv = .slice a ls.length c := by
  rcases h with ⟨a, c, h1, h2⟩ | ⟨b, off, cap, h1, _⟩
  · exact ⟨a, c, by rw [h2]; exact h1⟩
  · exact ⟨_, _, h1⟩
theorem IntSl.one {w : World} {s : Value} {xs : List Int} (h : IntSl w s xs) : s.oneCell' = true := by
  rcases h with ⟨_, _, rfl, _⟩ | ⟨_, _, _, rfl, _⟩ <;> rfl
/- slices.DeleteFunc on a slice of devices of the call's own: the plain part, and clear. -/
theorem run_clear_dev (w : World) (ty : TypeId) (b o n c : Nat) (hn : 0 < n)
    (hc : ∀ j, j < n * 4 → (w.cell? ⟨b, o + j, none⟩).isSome = true) (hf : ∀ j, w.frozen? ⟨b, j, none⟩ = false) :
    ∃ vs : List Value, vs.length = n * 4 ∧ (Builtin.clear_ #[24] ty #[.slice (some ⟨b, o, none⟩) n c]).run Tryz.prog w = .ok (.tuple #[]) (w.setCells b o vs) := by
  have hv : ∀ w, (zeroValue 46).run Tryz.prog w = .ok (.agg #[.int .i64 0, .slice none 0 0, .int .i64 0, .int .i64 0]) w := fun w => by kernel_rfl
  have hz : (Value.agg #[.int .i64 0, .slice none 0 0, .int .i64 0, .int .i64 0]).cells = #[.int .i64 0, .slice none 0 0, .int .i64 0, .int .i64 0] := by kernel_rfl
  have hlen : (Builtin.zeroCells #[Value.int .i64 0, .slice none 0 0, .int .i64 0, .int .i64 0] n).toList.length = n * 4 := by rw [Array.length_toList, size_zeroCells]; rfl
  have h1 : ∀ v ∈ (Builtin.zeroCells #[Value.int .i64 0, .slice none 0 0, .int .i64 0, .int .i64 0] n).toList, v.oneCell' = true := by
    intro v hv'
    simp [Builtin.zeroCells] at hv'
    obtain ⟨i, hi, rfl⟩ := hv'
    have h4 : i % 4 < 4 := Nat.mod_lt _ (by omega)
    generalize i % 4 = m at h4
    match m, h4 with
    | 0, _ => rfl
    | 1, _ => rfl
    | 2, _ => rfl
    | 3, _ => rfl
  have hst := run_storeCells_cells (P := Tryz.prog) b o (Builtin.zeroCells #[Value.int .i64 0, .slice none 0 0, .int .i64 0, .int .i64 0] n).toList 0 w (by rw [hlen]; simpa using hc) (by intro j _; exact hf _) h1
  simp only [Nat.add_zero] at hst
  refine ⟨_, hlen, ?_⟩
  obtain ⟨m, rfl⟩ : ∃ m, n = m + 1 := ⟨n - 1, by omega⟩
  simp [Builtin.clear_, run_underlying Tryz.underlying24, hv, hz, hst]
theorem Blk.setCells (g : Nat) {T : TypeId} : ∀ (vs : List Value) (o : Nat) (w : World) (cs : Array Value), Blk w g cs T → ∃ cs' : Array Value, Blk (w.setCells g o vs) g cs' T ∧ (∀ i, i < o → cs'[i]? = cs[i]?) ∧ Within g (g + 1) w (w.setCells g o vs)
  | [], o, w, cs, h => ⟨cs, h, fun _ _ => rfl, Within.refl _ _ _⟩
  | v :: r, o, w, cs, h => by
    obtain ⟨cs', h1, h2, h3⟩ := Blk.setCells g r (o + 1) (w.setCell ⟨g, o, none⟩ v) _ (h.set o v)
    refine ⟨cs', h1, fun i hi => ?_, (Within.off v).on h3⟩
    rw [h2 i (by omega)]
    simp [Array.getElem?_setIfInBounds, show ¬ o = i by omega]
def At4 (w : World) (cs : Array Value) (i f : Nat) (x : Dv) : Prop := ∃ pv, Cs4 cs i (.int .i64 x.kind) pv (.int .i64 x.wd) (.int .i64 x.len) ∧ OwnR w f (f + 1) pv x.pins
def DelSt (w : World) (lo hi g : Nat) (f : Nat → Nat) (xs ys : List Dv) (k : Nat) (cs : Array Value) : Prop :=
  (∃ h : Nat → Nat, (∀ i y, ys[i]? = some y → At4 w cs i (f (h i)) y ∧ (h i < k ∧ h i < xs.length) ∧ (lo ≤ f (h i) ∧ f (h i) < hi ∧ f (h i) ≠ g)) ∧ (∀ i j, i < ys.length → j < ys.length → i ≠ j → h i ≠ h j)) ∧
  (∀ i x, k ≤ i → xs[i]? = some x → At4 w cs i (f i) x ∧ (lo ≤ f i ∧ f i < hi ∧ f i ≠ g))
section
variable {w w' : World} {lo hi g k : Nat} {f : Nat → Nat} {xs ys : List Dv} {cs cs' : Array Value}
theorem DelSt.skip (h : DelSt w lo hi g f xs ys k cs) : DelSt w lo hi g f xs ys (k + 1) cs := by
  obtain ⟨⟨m, h1, h2⟩, h3⟩ := h
  refine ⟨⟨m, fun i y hy => ?_, h2⟩, fun i x hi hx => h3 i x (by omega) hx⟩
  obtain ⟨a, b, c⟩ := h1 i y hy
  exact ⟨a, ⟨by omega, b.2⟩, c⟩
theorem DelSt.start (h : ∀ i x, xs[i]? = some x → At4 w cs i (f i) x ∧ (lo ≤ f i ∧ f i < hi ∧ f i ≠ g)) (k : Nat) (hk : k < xs.length) : DelSt w lo hi g f xs (xs.take k) (k + 1) cs := by
  refine ⟨⟨fun i => i, fun i y hy => ?_, fun i j _ _ h => h⟩, fun i x _ hx => h i x hx⟩
  dsimp only
  have hi : i < k := by have := (List.getElem?_eq_some_iff.1 hy).1; simp at this; omega
  rw [List.getElem?_take] at hy
  simp [hi] at hy
  exact ⟨(h i y hy).1, ⟨by omega, by omega⟩, (h i y hy).2⟩
theorem Cs4.at_ {cs cs' : Array Value} {i : Nat} {a b c d : Value} (h : Cs4 cs i a b c d) (e : ∀ j, i * 4 ≤ j → j < i * 4 + 4 → cs'[j]? = cs[j]?) : Cs4 cs' i a b c d :=
  ⟨(e _ (by omega) (by omega)).trans h.1, (e _ (by omega) (by omega)).trans h.2.1, (e _ (by omega) (by omega)).trans h.2.2.1, (e _ (by omega) (by omega)).trans h.2.2.2⟩
theorem At4.at_ {i q : Nat} {x : Dv} (h : At4 w cs i q x) (e : ∀ j, i * 4 ≤ j → j < i * 4 + 4 → cs'[j]? = cs[j]?) : At4 w cs' i q x := by
  obtain ⟨pv, h1, h2⟩ := h
  exact ⟨pv, h1.at_ e, h2⟩
def set4 (cs : Array Value) (k : Nat) (a b c d : Value) : Array Value := (((cs.setIfInBounds (k * 4) a).setIfInBounds (k * 4 + 1) b).setIfInBounds (k * 4 + 2) c).setIfInBounds (k * 4 + 3) d
theorem set4_other (cs : Array Value) (k : Nat) (a b c d : Value) (j : Nat) (h : j < k * 4 ∨ k * 4 + 4 ≤ j) : (set4 cs k a b c d)[j]? = cs[j]? := by
  simp [set4, Array.getElem?_setIfInBounds, show ¬ k * 4 = j by omega, show ¬ k * 4 + 1 = j by omega, show ¬ k * 4 + 2 = j by omega, show ¬ k * 4 + 3 = j by omega]
theorem set4_same (cs : Array Value) (k : Nat) (a b c d : Value) (h : k * 4 + 3 < cs.size) : Cs4 (set4 cs k a b c d) k a b c d := by
  refine ⟨?_, ?_, ?_, ?_⟩ <;> simp [set4, Array.getElem?_setIfInBounds] <;> omega
theorem DelSt.push (h : DelSt w lo hi g f xs ys k cs) (hl : ys.length ≤ k) {x : Dv} (hx : xs[k]? = some x) {pv : Value} (hc : Cs4 cs k (.int .i64 x.kind) pv (.int .i64 x.wd) (.int .i64 x.len)) (hO : OwnR w (f k) (f k + 1) pv x.pins) :
    DelSt w lo hi g f xs (ys ++ [x]) (k + 1) (set4 cs ys.length (.int .i64 x.kind) pv (.int .i64 x.wd) (.int .i64 x.len)) := by
  obtain ⟨⟨m, h1, h2⟩, h3⟩ := h
  have hk := (List.getElem?_eq_some_iff.1 hx).1
  have hsz : ys.length * 4 + 3 < cs.size := by have := (Array.getElem?_eq_some_iff.1 hc.2.2.2).1; omega
  refine ⟨⟨fun i => if i = ys.length then k else m i, fun i y hy => ?_, fun i j hi hj hne => ?_⟩, fun i y hi hy => ?_⟩
  · dsimp only
    by_cases e : i = ys.length
    · subst e
      obtain rfl : y = x := by simpa using hy.symm
      rw [if_pos rfl]
      exact ⟨⟨pv, set4_same _ _ _ _ _ _ hsz, hO⟩, ⟨by omega, hk⟩, (h3 k y (Nat.le_refl _) hx).2⟩
    · have hi : i < ys.length := by have := (List.getElem?_eq_some_iff.1 hy).1; simp at this; omega
      rw [List.getElem?_append_left hi] at hy
      obtain ⟨a, b, c⟩ := h1 i y hy
      rw [if_neg e]
      exact ⟨a.at_ (fun j _ _ => set4_other _ _ _ _ _ _ _ (by omega)), ⟨by omega, b.2⟩, c⟩
  · simp at hi hj
    dsimp only
    have hb : ∀ i, i < ys.length → m i < k := fun i hi => (h1 i ys[i] (List.getElem?_eq_getElem hi)).2.1.1
    by_cases e : i = ys.length <;> by_cases e' : j = ys.length
    · omega
    · have := hb j (by omega); rw [if_pos e, if_neg e']; omega
    · have := hb i (by omega); rw [if_neg e, if_pos e']; omega
    · rw [if_neg e, if_neg e']; exact h2 i j (by omega) (by omega) hne
  · obtain ⟨a, b⟩ := h3 i y (by omega) hy
    exact ⟨a.at_ (fun j _ _ => set4_other _ _ _ _ _ _ _ (by omega)), b⟩
theorem DelSt.done (h : DelSt w lo hi g f xs ys k cs) (hinj : ∀ i j, i < xs.length → j < xs.length → i ≠ j → f i ≠ f j) (hw : Within g (g + 1) w w') (hB : Blk w' g cs' 46) (he : ∀ j, j < ys.length * 4 → cs'[j]? = cs[j]?) (hg : lo ≤ g ∧ g < hi) {cap : Nat} (h1 : ys.length ≤ cap) (h2 : cap ≤ maxLen) :
    OwnDs w' lo hi (.slice (some ⟨g, 0, none⟩) ys.length cap) ys := by
  obtain ⟨⟨m, a1, a2⟩, _⟩ := h
  refine .inr ⟨g, cap, cs', fun i => f (m i), rfl, hg, h1, h2, hB, fun i y hy => ?_, fun i j hi hj hne => ?_⟩
  · dsimp only
    obtain ⟨b1, b2, b3⟩ := a1 i y hy
    have hi := (List.getElem?_eq_some_iff.1 hy).1
    obtain ⟨pv, c1, c2⟩ := b1.at_ (cs' := cs') (fun j _ _ => he j (by omega))
    exact ⟨⟨pv, c1, c2.past hw (by omega)⟩, b3⟩
  · exact hinj _ _ (a1 i ys[i] (List.getElem?_eq_getElem hi)).2.1.2 (a1 j ys[j] (List.getElem?_eq_getElem hj)).2.1.2 (a2 i j hi hj hne)
end
theorem first_hit {α : Type} (p : α → Bool) (xs : List α) : (∀ x ∈ xs, p x = false) ∨ ∃ (k : Nat) (x : α), xs[k]? = some x ∧ p x = true ∧ ∀ (j : Nat) (y : α), j < k → xs[j]? = some y → p y = false := by
  induction xs with
  | nil => exact .inl (by simp)
  | cons a l ih =>
    cases ha : p a with
    | true => exact .inr ⟨0, a, rfl, ha, fun j y hj => by omega⟩
    | false =>
      rcases ih with h | ⟨k, x, h1, h2, h3⟩
      · exact .inl (by simpa [ha] using h)
      · refine .inr ⟨k + 1, x, h1, h2, fun j y hj hy => ?_⟩
        cases j with
        | zero => simp at hy; subst hy; exact ha
        | succ j => exact h3 j y (by omega) hy
theorem filter_at {α : Type} {p : α → Bool} {xs : List α} {k : Nat} {x : α} (h : xs[k]? = some x) : (xs.take (k + 1)).filter (fun x => !p x) = (xs.take k).filter (fun x => !p x) ++ (if p x = true then [] else [x]) := by
  rw [take_snoc_of xs k x h, List.filter_append]; cases hp : p x <;> simp [hp]
theorem filter_first {α : Type} {p : α → Bool} {xs : List α} {k : Nat} {x : α} (h : xs[k]? = some x) (hp : p x = true) (h' : ∀ (j : Nat) (y : α), j < k → xs[j]? = some y → p y = false) : (xs.take (k + 1)).filter (fun x => !p x) = xs.take k := by
  rw [filter_at h, hp]
  simp only [if_true, List.append_nil]
  refine List.filter_eq_self.2 fun y hy => ?_
  obtain ⟨j, hj, e⟩ := List.getElem_of_mem hy
  simp at hj e
  rw [h' j y (by omega) (by rw [← e]; exact List.getElem?_eq_getElem (by omega))]; rfl
def okD (d : Dv) : Bool := !decide (curP d.pins = curQ d.pins)
def rmS (x : Nl) : Nl := if nlB x = true then ⟨x.nets, x.ds.filter okD, x.ps⟩ else ⟨0, [], []⟩
theorem rmS_no {x : Nl} (h : nlB x = false) : rmS x = ⟨0, [], []⟩ := by simp [rmS, h]
theorem rmS_yes {x : Nl} (h : nlB x = true) : rmS x = ⟨x.nets, x.ds.filter okD, x.ps⟩ := by simp [rmS, h]
theorem filter_yes (ds : List Dv) (k : Nat) (x : Dv) (h : ds[k]? = some x) (hx : okD x = true) : (ds.take (k + 1)).filter okD = (ds.take k).filter okD ++ [x] := by
  rw [take_snoc_of ds k x h, List.filter_append]; simp [hx]
theorem filter_no (ds : List Dv) (k : Nat) (x : Dv) (h : ds[k]? = some x) (hx : okD x = false) : (ds.take (k + 1)).filter okD = (ds.take k).filter okD := by
  rw [take_snoc_of ds k x h, List.filter_append]; simp [hx]
theorem ownNl_zero (w : World) (lo hi : Nat) (h : lo ≤ hi) : OwnNl w lo hi (.agg #[.int .i64 0, .slice none 0 0, .slice none 0 0]) ⟨0, [], []⟩ :=
  ⟨_, _, lo, hi, hi, hi, rfl, .inl ⟨_, _, rfl, rfl⟩, .inl ⟨_, _, rfl, rfl⟩, ⟨Nat.le_refl _, Nat.le_refl _⟩, ⟨h, Nat.le_refl _⟩, .inl (Nat.le_refl _)⟩
set_option maxRecDepth 100000 in
set_option maxHeartbeats 1000000 in
theorem specRm_no (x : Nl) (v : Value) (w : World) (h : NlV w v x) (hok : ∀ p ∈ x.ps, p.ok) (hnn : Fits x.nets) (hv : nlB x = false) :
    Calls Tryz.prog 31 #[v] w fun e w' => ∃ v', e = .returned v' ∧ OwnNl w' w.heap.size w'.heap.size v' (rmS x) ∧ Below w.heap.size w w' := by
  rw [rmS_no hv]
  have HV := Lib.hid (fun v w h => specNl_any x v w h hok hnn)
  rw [hv] at HV
  have HN := Lib.hid h
  obtain ⟨a, c, a', c', rfl⟩ := h.sized
  clear h hok hv
  go_enter Tryz.func31, Tryz.ntmps31
  go_wp2_with (go_at_call 29; refine (HV.out _ _ (HN.out.by blwT)).mono ?_; rintro e w1 ⟨rfl, hb1⟩; have k1 : Blk w1 (w.heap.size + 1) #[.int .i64 0, .slice none 0 0, .slice none 0 0] 27 := blkT; have f1 := k1.free; have c1 := k1.cell; have l1 := k1.lt)
  exact bodyPost_ret (v := .agg #[.int .i64 0, .slice none 0 0, .slice none 0 0]) (by simp [results, Tryz.results31, go_sem, *]) rfl ⟨_, rfl, ownNl_zero _ _ _ (by simp; omega), blwT⟩
set_option maxRecDepth 100000 in
set_option maxHeartbeats 8000000 in
theorem specRm_yes (x : Nl) (v : Value) (w : World) (h : NlV w v x) (hok : ∀ p ∈ x.ps, p.ok) (hnn : Fits x.nets) (hv : nlB x = true) :
    Calls Tryz.prog 31 #[v] w fun e w' => ∃ v', e = .returned v' ∧ OwnNl w' w.heap.size w'.heap.size v' (rmS x) ∧ Below w.heap.size w w' := by
  rw [rmS_yes hv]
  have HV := Lib.hid (fun v w h => specNl_any x v w h hok hnn)
  rw [hv] at HV
  have HN := Lib.hid h
  obtain ⟨_, hl24, hp8, hdv, _⟩ := nlB_facts hv
  have HSH := Lib.hid (fun d (hd : d ∈ x.ds) => shp_of (hdv d hd))
  have HPN := Lib.hid (fun d (hd : d ∈ x.ds) => dvB_pins (hdv d hd))
  obtain ⟨s1, s2, rfl, hd, hp⟩ := h
  obtain ⟨nets, ds, ps⟩ := x
  dsimp only at hd hp HN HV HSH HPN hl24 hp8 ⊢
  have HD := Lib.hid hd
  have HP := Lib.hid hp
  obtain ⟨a1, c1, rfl⟩ := hd.sized
  obtain ⟨a2, c2, rfl⟩ := hp.sized
  clear hd hp hok hv hdv
  go_enter Tryz.func31, Tryz.ntmps31
  go_wp2_with fail
  refine (HV.out _ _ (HN.out.by blwT)).mono ?_
  rintro e w1 ⟨rfl, hb1⟩
  have kN : Blk w1 w.heap.size #[.int .i64 nets, .slice a1 ds.length c1, .slice a2 ps.length c2] 27 := blkT
  have kZ : Blk w1 (w.heap.size + 1) #[.int .i64 0, .slice none 0 0, .slice none 0 0] 27 := blkT
  have hb : Below w.heap.size w w1 := blwT
  have c01 : w1.cell? ⟨w.heap.size, 0, none⟩ = some (.int .i64 nets) := kN.cell 0
  have c02 : w1.cell? ⟨w.heap.size, 2, none⟩ = some (.slice a2 ps.length c2) := kN.cell 2
  have lN := kN.lt
  have lZ := kZ.lt
  have HPW := Lib.hid (HP.out.by hb)
  clear hb1
  go_upto_region 3 with fail
  go_cut [3] (fun s3 wx => ∃ (p : Nat) (a3 : Option Addr) (c3 lo2 hi2 : Nat), s3 = .pointer (some ⟨p, 0, none⟩) ∧ Blk wx p #[.int .i64 nets, .slice none 0 0, .slice a3 ps.length c3] 27 ∧ Blk wx w.heap.size #[.int .i64 nets, .slice a1 ds.length c1, .slice a2 ps.length c2] 27 ∧ Blk wx (w.heap.size + 1) #[.int .i64 0, .slice none 0 0, .slice none 0 0] 27 ∧ OwnPs wx lo2 hi2 (.slice a3 ps.length c3) ps ∧ (w.heap.size + 1 < p ∧ w.heap.size + 1 < lo2 ∧ hi2 ≤ wx.heap.size ∧ (p < lo2 ∨ hi2 ≤ p)) ∧ Below w.heap.size w wx)
  case first =>
    go_region_held_law ((fun w' => (Blk w' (w.heap.size) #[.int .i64 nets, .slice a1 ds.length c1, .slice a2 ps.length c2] 27 ∧ ∀ o, w'.cell? ⟨w.heap.size, o, none⟩ = (#[.int .i64 nets, .slice a1 ds.length c1, .slice a2 ps.length c2] : Array Value)[o]?) ∧ Below w.heap.size w w')) (((try (obtain ⟨⟨hS0, _⟩, hSB⟩ := hHeld)); refine ⟨Blk.both ?_, ?_⟩ <;> first | ((repeat (first | (with_reducible assumption) | (with_reducible refine Blk.drewN ?_ _) | (with_reducible refine Blk.drew ?_) | ((with_reducible refine Blk.new _ ?_); focus (first | omega | (simp; done) | (simp; omega))) | (with_reducible refine Blk.past ?_ _) | ((with_reducible refine Blk.apart ?_ _ _ _ ?_); rotate_left; focus (first | omega | (simp; done) | (simp; omega))) | (with_reducible refine Blk.by (by assumption) ?_))); done) | ((repeat (first | (with_reducible exact Below.refl _ _) | (with_reducible refine below_drewN ?_ _) | (with_reducible refine Below.drew ?_) | (with_reducible refine below_al ?_ _) | (with_reducible refine below_on (by assumption) ?_) | ((with_reducible refine Below.setCell ?_ ?_ _); rotate_left; focus (first | omega | (simp; done) | (simp; omega))) | (with_reducible assumption))); done)))
      (first | (refine step_cloneP (by rfl) _ _ (by rfl) _ (by rfl) _ ps (by rfl) (HPW.out.by blwT) (by omega) _ (Nat.le_refl _) ?_; intro v3 w3 hO hb3; have HO := Lib.hid hO; obtain ⟨a3, c3, rfl⟩ := hO.sl.sized; clear hO; (refine with_fact (p := Blk w3 w.heap.size #[.int .i64 nets, .slice a1 ds.length c1, .slice a2 ps.length c2] 27) (Blk.by hb3 ?_) ?_; (focus ((repeat (first | (with_reducible assumption) | (with_reducible refine Blk.drewN ?_ _) | (with_reducible refine Blk.drew ?_) | ((with_reducible refine Blk.new _ ?_); focus (first | omega | (simp; done) | (simp; omega))) | (with_reducible refine Blk.past ?_ _) | ((with_reducible refine Blk.apart ?_ _ _ _ ?_); rotate_left; focus (first | omega | (simp; done) | (simp; omega))) | (with_reducible refine Blk.by (by assumption) ?_))); done)); intro kN3; have lN3 := kN3.lt; have q0 : w3.cell? ⟨w.heap.size, 0, none⟩ = some (.int .i64 nets) := kN3.cell 0; have q2 : w3.cell? ⟨w.heap.size, 2, none⟩ = some (.slice a2 ps.length c2) := kN3.cell 2); (try (refine with_fact (p := Blk w3 (w1.heap.size) #[.int .i64 0, .slice none 0 0, .slice none 0 0] 27) (Blk.by hb3 ?_) ?_; (focus ((repeat (first | (with_reducible assumption) | (with_reducible refine Blk.drewN ?_ _) | (with_reducible refine Blk.drew ?_) | ((with_reducible refine Blk.new _ ?_); focus (first | omega | (simp; done) | (simp; omega))) | (with_reducible refine Blk.past ?_ _) | ((with_reducible refine Blk.apart ?_ _ _ _ ?_); rotate_left; focus (first | omega | (simp; done) | (simp; omega))) | (with_reducible refine Blk.by (by assumption) ?_))); done)); intro k3; have q30 : w3.cell? ⟨w1.heap.size, 0, none⟩ = some (.int .i64 0) := k3.cell 0; have q31 : w3.cell? ⟨w1.heap.size, 1, none⟩ = some (.slice none 0 0) := k3.cell 1; have q32 : w3.cell? ⟨w1.heap.size, 2, none⟩ = some (.slice none 0 0) := k3.cell 2; have f30 : w3.frozen? ⟨w1.heap.size, 0, none⟩ = false := k3.free 0; have f31 : w3.frozen? ⟨w1.heap.size, 1, none⟩ = false := k3.free 1; have f32 : w3.frozen? ⟨w1.heap.size, 2, none⟩ = false := k3.free 2)); (try (refine with_fact (p := Blk w3 (w1.heap.size + 1) #[.int .i64 0, .slice none 0 0, .slice none 0 0] 27) (Blk.by hb3 ?_) ?_; (focus ((repeat (first | (with_reducible assumption) | (with_reducible refine Blk.drewN ?_ _) | (with_reducible refine Blk.drew ?_) | ((with_reducible refine Blk.new _ ?_); focus (first | omega | (simp; done) | (simp; omega))) | (with_reducible refine Blk.past ?_ _) | ((with_reducible refine Blk.apart ?_ _ _ _ ?_); rotate_left; focus (first | omega | (simp; done) | (simp; omega))) | (with_reducible refine Blk.by (by assumption) ?_))); done)); intro k3; have q30 : w3.cell? ⟨w1.heap.size + 1, 0, none⟩ = some (.int .i64 0) := k3.cell 0; have q31 : w3.cell? ⟨w1.heap.size + 1, 1, none⟩ = some (.slice none 0 0) := k3.cell 1; have q32 : w3.cell? ⟨w1.heap.size + 1, 2, none⟩ = some (.slice none 0 0) := k3.cell 2; have f30 : w3.frozen? ⟨w1.heap.size + 1, 0, none⟩ = false := k3.free 0; have f31 : w3.frozen? ⟨w1.heap.size + 1, 1, none⟩ = false := k3.free 1; have f32 : w3.frozen? ⟨w1.heap.size + 1, 2, none⟩ = false := k3.free 2))))
    all_goals (go_wp2_with fail; go_meet)
    all_goals have hlw := hb3.size
    all_goals simp only [World.size_alloc, World.size_drew] at hlw
    · refine ⟨w3.heap.size, a3, c3, w1.heap.size + 1, w3.heap.size, rfl, Blk.new _ rfl, blkT, blkT, ?_, ⟨by omega, by omega, by simp, by omega⟩, blwT⟩
      exact (HO.out.by ((Below.refl _ w3).alloc (Nat.le_refl _) _)).wide (by simp) (by simp)
    · refine ⟨w1.heap.size + 1, a3, c3, w1.heap.size + 1 + 1, w3.heap.size, rfl, (((k3.set 0 _).set 1 _).set 2 _), blkT, blkT, ?_, ⟨by omega, by omega, by simp, by omega⟩, blwT⟩
      exact (((HO.out.past (Within.off _) (by simp)).past (Within.off _) (by simp)).past (Within.off _) (by simp)).wide (by simp) (by simp)
    · refine ⟨w1.heap.size, a3, c3, w1.heap.size + 1 + 1, w3.heap.size, rfl, (((k3.set 0 _).set 1 _).set 2 _), blkT, blkT, ?_, ⟨by omega, by omega, by simp, by omega⟩, blwT⟩
      exact (((HO.out.past (Within.off _) (by simp)).past (Within.off _) (by simp)).past (Within.off _) (by simp)).wide (by simp) (by simp)
  case rest =>
    clear kN kZ hb c01 c02 lN lZ
    obtain ⟨p, a3, c3, lo2, hi2, rfl, kP, kN, kZ, hO, ⟨hp1, hp2, hp3, hp4⟩, hb⟩ := hcut
    have lP := kP.lt
    have hbl := hb.size
    obtain ⟨B, hB⟩ : ∃ B, wc.heap.size = B := ⟨_, rfl⟩
    rw [hB] at lP hbl
    have hBl := Bld.nil wc wc.heap.size
    rw [hB] at hBl hp3
    have HO1 := Lib.hid hO
    have lPB : p < B := lP
    have HB := Lib.hid hB
    clear hO hB
    go_wp2
    go_loopw [4] (fun i wr => ∃ (k : Nat) (v : Value) (hi : Nat), k ≤ ds.length ∧ B ≤ hi ∧ i = .int .i64 k ∧ Bld wr B hi v ((ds.take k).filter okD) ∧ Blk wr p #[.int .i64 nets, v, .slice a3 ps.length c3] 27 ∧ Blk wr w.heap.size #[.int .i64 nets, .slice a1 ds.length c1, .slice a2 ps.length c2] 27 ∧ Blk wr (w.heap.size + 1) #[.int .i64 0, .slice none 0 0, .slice none 0 0] 27 ∧ OwnPs wr lo2 hi2 (.slice a3 ps.length c3) ps ∧ Below w.heap.size w wr) (fun i _ => ds.length - (intOf i).toNat)
    case atStart => exact ⟨0, .slice none 0 0, B, Nat.zero_le _, Nat.le_refl _, rfl, hBl, kP, kN, kZ, HO1.out, hb⟩
    case round =>
      clear kP kZ kN hb hBl
      obtain ⟨k, v, hi, hk, hBhi, rfl, hBl, kP, kN, kZ, hO, hb⟩ := hrel
      have HO := Lib.hid hO
      have HBL := Lib.hid hBl
      have lP := kP.lt
      obtain ⟨av, cv, rfl⟩ := hBl.sized
      have hhi := hBl.1
      have hfl : ((ds.take k).filter okD).length ≤ 24 := by
        have h1 := List.length_filter_le okD (ds.take k)
        have h2 : (ds.take k).length ≤ ds.length := by rw [List.length_take]; omega
        omega
      have cN1 : wr.cell? ⟨w.heap.size, 1, none⟩ = some (.slice a1 ds.length c1) := kN.cell 1
      have lN := kN.lt
      clear hO hBl
      by_cases hlt : k < ds.length
      · obtain ⟨x, hx⟩ : ∃ x, ds[k]? = some x := ⟨ds[k], List.getElem?_eq_getElem hlt⟩
        have HDS := HD.out
        rcases HDS with ⟨_, _, _, h2⟩ | ⟨b, off, cap, he, h2, h3, h4⟩
        · rw [h2] at hlt; simp at hlt
        obtain ⟨rfl, rfl⟩ : a1 = some ⟨b, off, none⟩ ∧ c1 = cap := by simpa using he
        obtain ⟨hx3, hx2, _⟩ := HPN.out x (List.mem_of_getElem? hx)
        have hxl : x.pins.length ≤ 1048576 := by omega
        have hxn : x.pins ≠ [] := by intro e; rw [e] at hx2; simp at hx2
        obtain ⟨sx, e1, e2, e3, e4, hSx0⟩ := h4 k x hx
        have d1 := cell_by' hb e1
        have d2 := cell_by' hb e2
        have d3 := cell_by' hb e3
        have d4 := cell_by' hb e4
        have HSS := Lib.hid (fun w h => l28Shorted_any x sx w h (HSH.out x (List.mem_of_getElem? hx)))
        have HCD := Lib.hid (fun w h => own_any x.kind x.wd x.len sx x.pins w h hxl)
        have HSX := Lib.hid hSx0
        have HX := Lib.hid hx
        have HXN := Lib.hid hxn
        obtain ⟨ax, cx, rfl⟩ := hSx0.len
        have i1 : (0 : Int) ≤ (k : Int) := by omega
        have i2 : (k : Int) < (ds.length : Int) := by omega
        have HFY := Lib.hid (filter_yes ds k x hx)
        have HFN := Lib.hid (filter_no ds k x hx)
        have HOK := Lib.hid (show okD x = !decide (curP x.pins = curQ x.pins) from rfl)
        generalize decide (curP x.pins = curQ x.pins) = sh at *
        generalize okD x = okx at *
        generalize hfk : (ds.take k).filter okD = fk at *
        have HFK := Lib.hid hfk
        clear h4 hx hxn he hSx0 hfk
        cases sh with
        | true =>
          have hokx := HOK.out
          simp at hokx
          go_wp2_with fail
          refine (HSS.out _ (HSX.out.by hb)).mono ?_
          rintro e w2 ⟨rfl, hb2⟩
          go_wp2
          exact ⟨⟨k + 1, .slice av fk.length cv, hi, by omega, hBhi, by go_num, by rw [HFN.out hokx]; exact HBL.out.by hb2, Blk.by hb2 kP, Blk.by hb2 kN, Blk.by hb2 kZ, HO.out.by hb2, below_on hb2 hb⟩, by simp [intOf]; omega⟩
        | false =>
          have hokx := HOK.out
          simp at hokx
          have hFY := HFY.out hokx
          replace HFY := Lib.hid hFY
          clear hFY hokx
          go_wp2_with fail
          refine (HSS.out _ (HSX.out.by hb)).mono ?_
          rintro e w2 ⟨rfl, hb2⟩
          have HBL2 := Lib.hid (HBL.out.by hb2)
          replace HO := Lib.hid (HO.out.by hb2)
          replace kP := Blk.by hb2 kP
          replace kN := Blk.by hb2 kN
          replace kZ := Blk.by hb2 kZ
          replace hb := below_on hb2 hb
          replace lP := kP.lt
          have hhi2 : hi ≤ w2.heap.size := by have := hb2.size; omega
          clear d1 d2 d3 d4 cN1 lN hb2 HBL
          have d1 := cell_by' hb e1
          have d2 := cell_by' hb e2
          have d3 := cell_by' hb e3
          have d4 := cell_by' hb e4
          have lX := lt_of_cell d1
          dsimp only at lX
          have cN1 : w2.cell? ⟨w.heap.size, 1, none⟩ = some (.slice (some ⟨b, off, none⟩) ds.length c1) := kN.cell 1
          have cP1 : w2.cell? ⟨p, 1, none⟩ = some (.slice av fk.length cv) := kP.cell 1
          have lN := kN.lt
          go_wp2
          go_region_law
            (first | (go_simp; go_at_call 67; refine (HCD.out _ ((HSX.out.by hb).by (below_of_drewN w2 1))).mono ?_; rintro e w4 ⟨v1, rfl, hOI, hb4⟩; obtain ⟨fb, hf1, hf2, hOR⟩ := hOI.pin HXN.out; have HOR := Lib.hid hOR; obtain ⟨a1', c1', rfl⟩ := hOR.sl.len; clear hOR hOI; (try simp at hf1); have kP4 := Blk.by hb4 kP.drew; have cP4 : w4.cell? ⟨p, 1, none⟩ = some (.slice av fk.length cv) := kP4.cell 1; have lP4 := kP4.lt; dsimp only) | (refine step_push (by rfl) _ _ (by rfl) B hi _ fk (by rfl) (HBL2.out.by blwT) w4.heap.size x _ fb (by rfl) (Blk.new _ rfl) (HOR.out.by ((Below.refl _ w4).alloc (Nat.le_refl _) _)) (by omega) (by omega) (by simp; omega) (by omega) ?_; intro a' c' w3 hBl3 hw3; have HBL3 := Lib.hid hBl3; have kP3 := hw3.blk ((Blk.by hb4 kP.drew).past (.cells #[.int .i64 x.kind, .slice a1' x.pins.length c1', .int .i64 x.wd, .int .i64 x.len] 46)) (by omega); have cP3 : w3.cell? ⟨p, 1, none⟩ = some (.slice av fk.length cv) := kP3.cell 1; have fP3 : w3.frozen? ⟨p, 1, none⟩ = false := kP3.free 1; have lP3 := kP3.lt; clear hBl3))
          all_goals
            have hsz3 := hw3.size
            simp only [World.size_alloc] at hsz3
            have hb3 := hw3.below (below_al (below_on hb4 hb.drew) (.cells #[.int .i64 x.kind, .slice a1' x.pins.length c1', .int .i64 x.wd, .int .i64 x.len] 46)) (by omega)
            have kZ3 := hw3.blk ((Blk.by hb4 (kZ.drew)).past (.cells #[.int .i64 x.kind, .slice a1' x.pins.length c1', .int .i64 x.wd, .int .i64 x.len] 46)) (by omega)
            have kN3 := hw3.blk ((Blk.by hb4 (kN.drew)).past (.cells #[.int .i64 x.kind, .slice a1' x.pins.length c1', .int .i64 x.wd, .int .i64 x.len] 46)) (by omega)
            have hO3 := (((HO.out.by (below_of_drewN _ 1)).by hb4).by ((Below.refl _ w4).alloc (Nat.le_refl _) (.cells #[.int .i64 x.kind, .slice a1' x.pins.length c1', .int .i64 x.wd, .int .i64 x.len] 46))).past hw3 (by omega)
            have hl1 : w2.heap.size ≤ w4.heap.size := hb4.size
            go_wp2
            have hW4 : Within p (p + 1) w3 (w3.setCell ⟨p, 1, none⟩ (.slice a' (fk.length + 1) c')) := Within.off _
            have hO4 := OwnPs.past (lo := lo2) (hi := hi2) hW4 hO3 (by omega)
            refine ⟨⟨k + 1, .slice a' (fk.length + 1) c', w3.heap.size, by omega, by omega, by go_num, ?_, kP3.set 1 _, kN3.apart p 1 _ (by omega), kZ3.apart p 1 _ (by omega), hO4, hb3.setCell (by simp; omega) _⟩, by simp [intOf]; omega⟩
            rw [HFY.out]
            exact HBL3.out.past hW4 (by omega)
      · obtain rfl : k = ds.length := by omega
        have hBL2 := HBL.out
        rw [List.take_length] at hBL2 kP
        have HOD := Lib.hid hBL2.own
        have c1' := kP.cell
        have c2' := kZ.cell
        have f2' := kZ.free
        have l2' := kZ.lt
        clear HBL hBL2
        go_wp2
        refine bodyPost_ret (v := .agg #[.int .i64 nets, .slice av (ds.filter okD).length cv, .slice a3 ps.length c3]) (by simp [results, Tryz.results31, go_sem, *]) rfl ⟨_, rfl, ⟨_, _, B, hi, lo2, hi2, rfl, ?_, ?_, ⟨hbl, by simp; omega⟩, ⟨by omega, by simp; omega⟩, .inr hp3⟩, ?_⟩
        · exact (((HOD.out.past (Within.off _) (by omega)).past (Within.off _) (by omega)).past (Within.off _) (by omega))
        · exact (((HO.out.past (Within.off _) (by omega)).past (Within.off _) (by omega)).past (Within.off _) (by omega))
        · repeat (first | (with_reducible exact hb) | ((with_reducible refine Below.setCell ?_ ?_ _); rotate_left; focus (simp; try omega)))
/- slices.DeleteFunc on a slice of devices of the call's own. -/
set_option maxRecDepth 100000 in
set_option maxHeartbeats 4000000 in
theorem deleteFuncD_any (gf : Nat) (lb : Array Value) (eg : ∀ args w, (callFunc gf args).run Tryz.prog w = .ok (.enter gf args) w) (p : Dv → Bool) (lo hi : Nat) (sv : Value) (xs : List Dv) (w : World) (h : OwnDs w lo hi sv xs)
    (hp : ∀ (W : World) (x : Dv) (sv : Value), x ∈ xs → IntSl W sv x.pins → Calls Tryz.prog gf (#[.agg #[.int .i64 x.kind, sv, .int .i64 x.wd, .int .i64 x.len]] ++ lb) W fun e w' => e = .returned (.bool (p x)) ∧ Below W.heap.size W w') :
    Calls Tryz.prog 44 #[sv, .func (.func gf) #[] lb] w fun e w' => ∃ v', e = .returned v' ∧ OwnDs w' lo hi v' (xs.filter fun x => !p x) ∧ Within lo hi w w' := by
  have HI := Lib.hid (indexFuncD_any gf lb eg p sv xs w h.sl (fun W x sv _ hx hs => hp W x sv hx hs))
  rcases first_hit p xs with hno | ⟨k0, x0, hx0, hp0, hbf⟩
  · have hf : xs.filter (fun x => !p x) = xs := List.filter_eq_self.2 (fun x hx => by rw [hno x hx]; rfl)
    rw [hf]
    rw [fidx_miss (fun j y hy => hno y (List.mem_of_getElem? hy))] at HI
    have HO := Lib.hid h
    obtain ⟨a, c, rfl⟩ := h.sl.sized
    clear h hp hno hf
    go_enter Tryz.func44, Tryz.ntmps44
    go_wp2_with fail
    refine HI.out.mono ?_
    rintro e w1 ⟨rfl, hb1⟩
    go_wp2
    go_ret
    exact ⟨_, rfl, HO.out.by hb1, ⟨hb1.os, hb1.tape, hb1.output, hb1.size, fun k hk _ => hb1.block k hk⟩⟩
  · rw [fidx_hit hx0 hp0 hbf] at HI
    have hst := filter_first hx0 hp0 hbf
    have hk0 : k0 < xs.length := (List.getElem?_eq_some_iff.1 hx0).1
    rcases h with ⟨a, c, rfl, rfl⟩ | ⟨g, cap, cs0, f, rfl, hg, hcap, hmax, hB0, hel, hinj⟩
    · simp at hk0
    have HSZ := Lib.hid (show xs.length * 4 ≤ cs0.size by
      obtain ⟨m, hm⟩ : ∃ m, xs.length = m + 1 := ⟨xs.length - 1, by omega⟩
      obtain ⟨⟨_, q, _⟩, _⟩ := hel m xs[m] (List.getElem?_eq_getElem (by omega))
      have := (Array.getElem?_eq_some_iff.1 q.2.2.2).1
      omega)
    have HS := Lib.hid (DelSt.start (w := w) (lo := lo) (hi := hi) (g := g) (cs := cs0) (xs := xs) (f := f) (fun i x hx => hel i x hx) k0 hk0)
    rw [← hst] at HS
    have HST := Lib.hid (show ((xs.take (k0 + 1)).filter fun x => !p x).length = k0 by rw [hst, List.length_take]; omega)
    have HINJ := Lib.hid hinj
    have HP := Lib.hid hp
    have HFA := Lib.hid (fun k x (h : xs[k]? = some x) => @filter_at Dv p xs k x h)
    have HFL := Lib.hid (fun k => List.length_filter_le (fun x => !p x) (xs.take k))
    have HFD := Lib.hid (show (xs.take xs.length).filter (fun x => !p x) = xs.filter (fun x => !p x) by rw [List.take_length])
    have hmx := hmax
    unfold maxLen at hmax
    clear hp hel hinj hst hx0 hp0 hbf
    go_enter Tryz.func44, Tryz.ntmps44
    go_wp2_with fail
    refine HI.out.mono ?_
    rintro e w1 ⟨rfl, hb1⟩
    have hB1 := Blk.by hb1 hB0
    have W1 : Within g (g + 1) w w1 := ⟨hb1.os, hb1.tape, hb1.output, hb1.size, fun k hk _ => hb1.block k hk⟩
    have i0 : ((k0 : Int) == -1) = false := by simp
    clear hb1 HI
    go_wp2
    go_loopw [5, 6, 7] (fun j i _ wr => ∃ k n : Nat, k0 < k ∧ k ≤ xs.length ∧ i = .int .i64 k ∧ j = .int .i64 n ∧ Hid (n = ((xs.take k).filter fun x => !p x).length) ∧ n < k ∧ (∃ cs : Array Value, Blk wr g cs 46 ∧ Hid (xs.length * 4 ≤ cs.size) ∧ Hid (DelSt w lo hi g f xs ((xs.take k).filter fun x => !p x) k cs)) ∧ Within g (g + 1) w wr) (fun _ i _ _ => xs.length - (intOf i).toNat)
    case atStart => exact ⟨k0 + 1, k0, by omega, by omega, by go_num, rfl, Lib.hid HST.out.symm, by omega, ⟨cs0, hB1, HSZ, HS⟩, W1⟩
    case round =>
      obtain ⟨k, n, hk0k, hkl, rfl, rfl, HN, hnk, ⟨cs, hB, HZ, HD⟩, hW⟩ := hrel
      clear HS HST W1
      by_cases hlt : k < xs.length
      · obtain ⟨x, hx⟩ : ∃ x, xs[k]? = some x := ⟨xs[k], List.getElem?_eq_getElem hlt⟩
        obtain ⟨⟨pv, hC, hO⟩, _⟩ := HD.out.2 k x (Nat.le_refl _) hx
        have hfk := (HD.out.2 k x (Nat.le_refl _) hx).2
        have HC := Lib.hid hC
        have HO := Lib.hid hO
        have HX := Lib.hid hx
        obtain ⟨c0, c1, c2, c3⟩ := hC
        have hsz := (Array.getElem?_eq_some_iff.1 c3).1
        obtain ⟨d0, u0⟩ : ∃ d, cs[n * 4]? = some d := ⟨_, Array.getElem?_eq_getElem (by omega)⟩
        obtain ⟨d1, u1⟩ : ∃ d, cs[n * 4 + 1]? = some d := ⟨_, Array.getElem?_eq_getElem (by omega)⟩
        obtain ⟨d2, u2⟩ : ∃ d, cs[n * 4 + 2]? = some d := ⟨_, Array.getElem?_eq_getElem (by omega)⟩
        obtain ⟨d3, u3⟩ : ∃ d, cs[n * 4 + 3]? = some d := ⟨_, Array.getElem?_eq_getElem (by omega)⟩
        have HSZ := Lib.hid hsz
        clear hsz
        have hcall := HP.out
        have HCL := Lib.hid (fun W h => HP.out W x pv (List.mem_of_getElem? hx) h)
        have hBc := hB.cell
        have hBl := hB.lt
        obtain ⟨a1, c1', rfl⟩ := hO.sl.len
        have i1 : (0 : Int) ≤ (k : Int) := by omega
        have i2 : (k : Int) < (xs.length : Int) := by omega
        have i3 : (0 : Int) ≤ (n : Int) := by omega
        have i4 : (n : Int) < (xs.length : Int) := by omega
        have HFX := Lib.hid (HFA.out k x hx)
        have hS := Lib.hid (show IntSl wr (.slice a1 x.pins.length c1') x.pins from (HO.out.past hW (by omega)).sl)
        clear hx hO hcall
        cases hq : p x with
        | true =>
          rw [hq] at HCL HFX
          simp only [if_true, List.append_nil] at HFX
          clear hq
          go_wp2_with (go_at_fn gf; refine (HCL.out _ (hS.out.by blwT)).mono ?_; rintro e w2 ⟨rfl, hb2⟩; have hb3 : Below wr.heap.size wr w2 := blwT)
          exact ⟨⟨k + 1, n, by omega, by omega, by go_num, rfl, Lib.hid (by rw [HFX.out]; exact HN.out), by omega, ⟨cs, Blk.by hb3 hB, HZ, Lib.hid (by rw [HFX.out]; exact HD.out.skip)⟩, hW.on ⟨hb3.os, hb3.tape, hb3.output, hb3.size, fun k hk _ => hb3.block k hk⟩⟩, by simp [intOf]; omega⟩
        | false =>
          rw [hq] at HCL HFX
          simp only [Bool.false_eq_true, if_false] at HFX
          have HQ := Lib.hid hq
          clear hq
          go_wp2_with (go_at_fn gf; refine (HCL.out _ (hS.out.by blwT)).mono ?_; rintro e w2 ⟨rfl, hb2⟩; have hb3 : Below wr.heap.size wr w2 := blwT; have kB : Blk w2 wr.heap.size #[.int .i64 x.kind, .slice a1 x.pins.length c1', .int .i64 x.wd, .int .i64 x.len] 46 := Blk.by hb2 (Blk.new _ rfl); have kBc := kB.cell; have kG := Blk.by hb3 hB; have kGc := kG.cell; have kGf := kG.free)
          have hW2 : Within g (g + 1) w w2 := hW.on ⟨hb3.os, hb3.tape, hb3.output, hb3.size, fun k hk _ => hb3.block k hk⟩
          exact ⟨⟨k + 1, n + 1, by omega, by omega, by go_num, by go_num, Lib.hid (by rw [HFX.out, List.length_append]; have := HN.out; simp; omega), by omega, ⟨set4 cs n (.int .i64 x.kind) (.slice a1 x.pins.length c1') (.int .i64 x.wd) (.int .i64 x.len), (((kG.set _ _).set _ _).set _ _).set _ _, Lib.hid (by have := HZ.out; simp [set4]; omega), Lib.hid (by
            rw [HFX.out]
            have hh := HD.out.push (by have := HN.out; omega) HX.out HC.out HO.out
            rw [← HN.out] at hh
            exact hh)⟩, (((hW2.on (Within.off _)).on (Within.off _)).on (Within.off _)).on (Within.off _)⟩, by simp [intOf]; omega⟩
      · obtain rfl : k = xs.length := by omega
        rw [HFD.out] at HN HD
        have hBl := hB.lt
        have hBc := hB.cell
        have hBf := hB.free
        have i3 : (0 : Int) ≤ (n : Int) := by omega
        have i4 : (n : Int) ≤ (xs.length : Int) := by omega
        have i5 : (n : Int) ≤ (cap : Int) := by omega
        obtain ⟨vs, hvl, hcl⟩ : ∃ vs : List Value, vs.length = (xs.length - n) * 4 ∧ ∀ ty, (Builtin.clear_ #[24] ty #[.slice (some ⟨g, n * 4, none⟩) (xs.length - n) (cap - n)]).run Tryz.prog wr = .ok (.tuple #[]) (wr.setCells g (n * 4) vs) := by
          obtain ⟨vs, h1, h2⟩ := run_clear_dev wr 0 g (n * 4) (xs.length - n) (cap - n) (by omega) (fun j hj => by rw [hBc]; rw [Array.getElem?_eq_getElem (by have := HZ.out; omega)]; rfl) (fun j => hBf j)
          exact ⟨vs, h1, fun ty => h2⟩
        obtain ⟨cs', hB', he', hW'⟩ := Blk.setCells g vs (n * 4) wr cs hB
        generalize wr.setCells g (n * 4) vs = w9 at *
        clear hBc hBf hvl
        go_wp2
        go_ret
        have hN := HN.out
        have hres := HD.out.done HINJ.out (hW.on hW') hB' (by rw [← hN]; exact he') hg (cap := cap) (by omega) hmx
        rw [← hN] at hres
        exact ⟨.slice (some ⟨g, 0, none⟩) n cap, by rfl, hres, (hW.on hW').sub hg.1 (by omega)⟩
/- The program's RemoveShorted. -/
set_option maxRecDepth 100000 in
set_option maxHeartbeats 1000000 in
theorem implRm_no (x : Nl) (v : Value) (w : World) (h : NlV w v x) (hok : ∀ p ∈ x.ps, p.ok) (hnn : Fits x.nets) (hv : nlB x = false) :
    Calls Tryz.prog 16 #[v] w fun e w' => ∃ v', e = .returned v' ∧ OwnNl w' w.heap.size w'.heap.size v' (rmS x) ∧ Below w.heap.size w w' := by
  rw [rmS_no hv]
  have HV := Lib.hid (fun v w h => implNl_any x v w h hok hnn)
  rw [hv] at HV
  have HN := Lib.hid h
  obtain ⟨a, c, a', c', rfl⟩ := h.sized
  clear h hok hv
  go_enter Tryz.func16, Tryz.ntmps16
  go_wp2_with (go_at_call 12; refine (HV.out _ _ (HN.out.by blwT)).mono ?_; rintro e w1 ⟨rfl, hb1⟩; have k1 : Blk w1 (w.heap.size + 1) #[.int .i64 0, .slice none 0 0, .slice none 0 0] 27 := blkT; have f1 := k1.free; have c1 := k1.cell; have l1 := k1.lt)
  exact bodyPost_ret (v := .agg #[.int .i64 0, .slice none 0 0, .slice none 0 0]) (by simp [results, Tryz.results16, go_sem, *]) rfl ⟨_, rfl, ownNl_zero _ _ _ (by simp; omega), blwT⟩
set_option maxRecDepth 100000 in
set_option maxHeartbeats 4000000 in
theorem implRm_yes (x : Nl) (v : Value) (w : World) (h : NlV w v x) (hok : ∀ p ∈ x.ps, p.ok) (hnn : Fits x.nets) (hv : nlB x = true) :
    Calls Tryz.prog 16 #[v] w fun e w' => ∃ v', e = .returned v' ∧ OwnNl w' w.heap.size w'.heap.size v' (rmS x) ∧ Below w.heap.size w w' := by
  rw [rmS_yes hv]
  have HV := Lib.hid (fun v w h => implNl_any x v w h hok hnn)
  rw [hv] at HV
  have HN := Lib.hid h
  obtain ⟨_, hl24, hp8, hdv, _⟩ := nlB_facts hv
  have HCP := Lib.hid (fun v w h => copyNetlist_any x v w h (by omega) (by omega) (fun d hd => by have h1 := (dvB_pins (hdv d hd)).1; have h2 := (dvB_pins (hdv d hd)).2.1; exact ⟨by omega, fun e => by rw [e] at h2; simp at h2⟩))
  have HSH := Lib.hid (fun d (hd : d ∈ x.ds) => shp_of (hdv d hd))
  have HDL := Lib.hid (fun lo hi sv w (h : OwnDs w lo hi sv x.ds) => deleteFuncD_any 45 #[] (fun _ _ => rfl) shB lo hi sv x.ds w h (fun W y sv hy hs => shorted_any y sv W hs (HSH.out y hy)))
  obtain ⟨a, c, a', c', rfl⟩ := h.sized
  obtain ⟨nets, ds, ps⟩ := x
  dsimp only at HN HV HCP HDL hl24 hp8 ⊢
  have hfo : ds.filter (fun x => !shB x) = ds.filter okD := rfl
  rw [hfo] at HDL
  clear h hok hv hdv hfo
  go_enter Tryz.func16, Tryz.ntmps16
  go_wp2_with fail
  refine (HV.out _ _ (HN.out.by blwT)).mono ?_
  rintro e w1 ⟨rfl, hb1⟩
  have k0 : Blk w1 w.heap.size #[.int .i64 nets, .slice a ds.length c, .slice a' ps.length c'] 27 := blkT
  have k1 : Blk w1 (w.heap.size + 1) #[.int .i64 0, .slice none 0 0, .slice none 0 0] 27 := blkT
  have hB1 : Below w.heap.size w w1 := blwT
  have l1 := k1.lt
  have c0 := k0.cell
  clear hb1
  go_wp2_with fail
  refine (HCP.out _ _ (HN.out.by hB1)).mono ?_
  rintro e w2 ⟨v2, rfl, hO, hb2⟩
  obtain ⟨s1, s2, lo1, hi1, lo2, hi2, rfl, hOD, hOP, hi1', hi2', hap⟩ := hO
  replace k1 := Blk.by hb2 k1
  have hB2 := below_on hb2 hB1
  have hsz2 := hb2.size
  obtain ⟨a1, c1, rfl⟩ := hOD.sl.sized
  obtain ⟨a2, c2, rfl⟩ := hOP.sl.sized
  dsimp only at hOD hOP
  have HOD := Lib.hid hOD
  have HOP := Lib.hid hOP
  clear c0 k0 hb2 hOD hOP HN HV HCP
  have c1' := k1.cell
  go_wp2_with (go_at_call 44; refine (HDL.out lo1 hi1 _ _ (HOD.out.by blwT)).mono ?_; rintro e w3 ⟨v3, rfl, hO3, hw3⟩; obtain ⟨a3, c3, rfl⟩ := hO3.sl.sized; have k3 : Blk w3 w2.heap.size #[.int .i64 nets, .slice a1 ds.length c1, .slice a2 ps.length c2] 27 := hw3.blk (Blk.new _ rfl) (by omega); have k1' := hw3.blk (k1.past _) (by omega); have c3' := k3.cell; have f3' := k3.free; have c1'' := k1'.cell; have f1'' := k1'.free; have hne : ¬ w2.heap.size = w.heap.size + 1 := (by omega))
  have hsz3 := hw3.size
  simp only [World.size_alloc] at hsz3
  have hB3 : Below w.heap.size w w3 := hw3.below (below_al hB2 (.cells #[.int .i64 nets, .slice a1 ds.length c1, .slice a2 ps.length c2] 27)) (by omega)
  have hOP3 := (HOP.out.by ((Below.refl _ w2).alloc (Nat.le_refl _) (.cells #[.int .i64 nets, .slice a1 ds.length c1, .slice a2 ps.length c2] 27))).past hw3 (by omega)
  refine bodyPost_ret (v := .agg #[.int .i64 nets, .slice a3 (ds.filter okD).length c3, .slice a2 ps.length c2]) (by simp [results, Tryz.results16, go_sem, *]) rfl ⟨_, rfl, ⟨_, _, lo1, hi1, lo2, hi2, rfl, ?_, ?_, ⟨by omega, by simp; omega⟩, ⟨by omega, by simp; omega⟩, hap⟩, ?_⟩
  · exact ((((hO3.past (Within.off _) (by omega)).past (Within.off _) (by omega)).past (Within.off _) (by omega)).past (Within.off _) (by omega))
  · exact ((((hOP3.past (Within.off _) (by omega)).past (Within.off _) (by omega)).past (Within.off _) (by omega)).past (Within.off _) (by omega))
  · repeat (first | (with_reducible exact hB3) | ((with_reducible refine Below.setCell ?_ ?_ _); rotate_left; focus (simp; try omega)))
/- Bounds of what RemoveShorted answers; both contracts. -/
theorem implRm_any (x : Nl) (v : Value) (w : World) (h : NlV w v x) (hok : ∀ p ∈ x.ps, p.ok) (hnn : Fits x.nets) :
    Calls Tryz.prog 16 #[v] w fun e w' => ∃ v', e = .returned v' ∧ OwnNl w' w.heap.size w'.heap.size v' (rmS x) ∧ Below w.heap.size w w' := by
  cases hv : nlB x with
  | false => exact implRm_no x v w h hok hnn hv
  | true => exact implRm_yes x v w h hok hnn hv
theorem specRmS_any (x : Nl) (v : Value) (w : World) (h : NlV w v x) (hok : ∀ p ∈ x.ps, p.ok) (hnn : Fits x.nets) :
    Calls Tryz.prog 31 #[v] w fun e w' => ∃ v', e = .returned v' ∧ OwnNl w' w.heap.size w'.heap.size v' (rmS x) ∧ Below w.heap.size w w' := by
  cases hv : nlB x with
  | false => exact specRm_no x v w h hok hnn hv
  | true => exact specRm_yes x v w h hok hnn hv
structure Res where
  a : Int
  b : Int
  num : Int
  den : Int
def Res.ok (x : Res) : Prop := (-9223372036854775808 ≤ x.a ∧ x.a ≤ 9223372036854775807) ∧ (-9223372036854775808 ≤ x.b ∧ x.b ≤ 9223372036854775807) ∧ (-9223372036854775808 ≤ x.num ∧ x.num ≤ 9223372036854775807) ∧ (-9223372036854775808 ≤ x.den ∧ x.den ≤ 9223372036854775807)
def rsB (nodes : Int) (x : Res) : Bool := inB x.a 0 (nodes - 1) && (inB x.b 0 (nodes - 1) && (!(x.a == x.b) && (vrB x.num x.den && (inB x.num 1 1000000 && decide (x.den ≤ 1000000)))))
def leftOf (xs : List Res) : Int := xs.foldl (fun l x => l / max x.num x.den) 10000000000000000
def nwB (nodes : Int) (xs : List Res) : Bool := inB nodes 1 6 && (decide (xs.length ≤ 8) && (xs.all (rsB nodes) && decide (0 < leftOf xs)))
theorem leftOf_snoc (xs : List Res) (x : Res) : leftOf (xs ++ [x]) = leftOf xs / max x.num x.den := by simp [leftOf, List.foldl_append]
theorem take_succ_of {α : Type} (xs : List α) (k : Nat) (x : α) (h : xs[k]? = some x) : xs.take (k + 1) = xs.take k ++ [x] := by
  rw [List.take_add_one, h]; rfl
theorem nw_no1 {nodes : Int} (xs : List Res) (h : inB nodes 1 6 = false) : nwB nodes xs = false := by simp [nwB, h]
theorem nw_no2 (nodes : Int) {xs : List Res} (h : ¬ xs.length ≤ 8) : nwB nodes xs = false := by simp [nwB]; omega
theorem nw_no3 {nodes : Int} {xs : List Res} {k : Nat} {x : Res} (hx : xs[k]? = some x) (h : rsB nodes x = false) : nwB nodes xs = false := by
  have hm : x ∈ xs := List.mem_of_getElem? hx
  have : xs.all (rsB nodes) = false := by
    rw [List.all_eq_false]; exact ⟨x, hm, by simp [h]⟩
  simp [nwB, this]
theorem nw_yes {nodes : Int} {xs : List Res} (h1 : inB nodes 1 6 = true) (h2 : xs.length ≤ 8) (h3 : ∀ x ∈ xs, rsB nodes x = true) : nwB nodes xs = decide (0 < leftOf xs) := by
  have : xs.all (rsB nodes) = true := by rw [List.all_eq_true]; exact h3
  simp [nwB, h1, h2, this]
theorem left_bd (l n d : Int) (h0 : 0 ≤ l) (h1 : l ≤ 10000000000000000) (hn : 1 ≤ n) : 0 ≤ l / max n d ∧ l / max n d ≤ 10000000000000000 := by
  have a := Int.ediv_nonneg h0 (show 0 ≤ max n d by omega)
  have b := Int.ediv_le_self (max n d) h0
  omega
def ResAt (w : World) (g o : Nat) (x : Res) : Prop :=
  w.cell? ⟨g, o, none⟩ = some (.int .i64 x.a) ∧ w.cell? ⟨g, o + 1, none⟩ = some (.int .i64 x.b) ∧ w.cell? ⟨g, o + 2, none⟩ = some (.int .i64 x.num) ∧ w.cell? ⟨g, o + 3, none⟩ = some (.int .i64 x.den)
def ResSl (w : World) (sv : Value) (xs : List Res) : Prop :=
  (∃ a c, sv = .slice a 0 c ∧ xs = []) ∨ ∃ b off cap, sv = .slice (some ⟨b, off, none⟩) xs.length cap ∧ xs.length ≤ cap ∧ cap ≤ maxLen ∧ ∀ i x, xs[i]? = some x → ResAt w b (off + i * 4) x
theorem ResAt.by {w w1 : World} {g o : Nat} {x : Res} (hb : Below w.heap.size w w1) (h : ResAt w g o x) : ResAt w1 g o x :=
  ⟨cell_by' hb h.1, cell_by' hb h.2.1, cell_by' hb h.2.2.1, cell_by' hb h.2.2.2⟩
theorem ResSl.by {w w1 : World} {sv : Value} {xs : List Res} (hb : Below w.heap.size w w1) (h : ResSl w sv xs) : ResSl w1 sv xs := by
  rcases h with h | ⟨b, off, cap, h1, h2, h3, h4⟩
  · exact .inl h
  · exact .inr ⟨b, off, cap, h1, h2, h3, fun i x hx => (h4 i x hx).by hb⟩
theorem ResSl.len {w : World} {sv : Value} {xs : List Res} (h : ResSl w sv xs) : ∃ a c, sv = .slice a xs.length c := by
  rcases h with ⟨a, c, h1, h2⟩ | ⟨b, off, cap, h1, _⟩
  · subst h2; exact ⟨a, c, h1⟩
  · exact ⟨_, _, h1⟩
def CsAt (cs : Array Value) (i : Nat) (x : Res) : Prop := cs[i * 4]? = some (.int .i64 x.a) ∧ cs[i * 4 + 1]? = some (.int .i64 x.b) ∧ cs[i * 4 + 2]? = some (.int .i64 x.num) ∧ cs[i * 4 + 3]? = some (.int .i64 x.den)
def ResBlk (w : World) (g : Nat) (xs : List Res) : Prop := ∃ cs : Array Value, Blk w g cs 57 ∧ cs.size = xs.length * 4 ∧ ∀ i x, xs[i]? = some x → CsAt cs i x
theorem ResBlk.by {w w1 : World} {g : Nat} {xs : List Res} (hb : Below w.heap.size w w1) (h : ResBlk w g xs) : ResBlk w1 g xs := by
  obtain ⟨cs, h1, h2⟩ := h; exact ⟨cs, Blk.by hb h1, h2⟩
theorem ResBlk.sl {w : World} {g : Nat} {xs : List Res} (h : ResBlk w g xs) (hm : xs.length ≤ maxLen) : ResSl w (.slice (some ⟨g, 0, none⟩) xs.length xs.length) xs := by
  obtain ⟨cs, h1, h2, h3⟩ := h
  refine .inr ⟨g, 0, xs.length, rfl, Nat.le_refl _, hm, fun i x hx => ?_⟩
  obtain ⟨e1, e2, e3, e4⟩ := h3 i x hx
  have hc := h1.cell
  simp only [Nat.zero_add]
  exact ⟨by rw [hc]; exact e1, by rw [hc]; exact e2, by rw [hc]; exact e3, by rw [hc]; exact e4⟩
theorem ResBlk.alloc {w : World} {g : Nat} {xs : List Res} (h : ResBlk w g xs) (o : Obj) : ResBlk (w.alloc o) g xs := by
  obtain ⟨cs, h1, h2⟩ := h; exact ⟨cs, h1.past o, h2⟩
theorem ResBlk.apart {w : World} {g : Nat} {xs : List Res} (h : ResBlk w g xs) (b o : Nat) (v : Value) (hne : g ≠ b) : ResBlk (w.setCell ⟨b, o, none⟩ v) g xs := by
  obtain ⟨cs, h1, h2⟩ := h; exact ⟨cs, h1.apart b o v hne, h2⟩
theorem ResBlk.lt {w : World} {g : Nat} {xs : List Res} (h : ResBlk w g xs) : g < w.heap.size := by
  obtain ⟨cs, h1, h2⟩ := h; exact h1.lt
open Go.ChangeShapes Go.WideShapes Go.ChangeAt Go.RowKit Go.Joins Go.Deep
section
variable {H : Type} {enc : TypeId × Value → H} {W : World} {base : Nat} {spare : Nat → Bool} {held : Bool}
end
end Go.Proofs.YtacbdmngcdhgoaaGreat
