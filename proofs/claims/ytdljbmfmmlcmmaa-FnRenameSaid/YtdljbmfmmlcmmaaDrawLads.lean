/- The draw of a ladder netlist: some netlist. -/
import Derived.Test.YtdljbmfmmlcmmaaDrawNl
import Derived.Test.YtdljbmfmmlcmmaaNorms
import Derived.Deep.DeepCutAuto
import Derived.Test.YtdljbmfmmlcmmaaPair5
namespace Go.Proofs.Ytdljbmfmmlcmmaa
open Go.RowKit
set_option linter.unusedVariables false
set_option linter.unusedSimpArgs false

/-- What a round of the ladder's loop holds ahead of the device: the netlist under way. -/
def Lad (W0 : World) (g : Nat) (sv : Value) (n : Nat) (w : World) (T : Nat) (N : Int) (B hi : Nat) (v : Value) (ds : List Dv) (wx : World) : Prop :=
  Blk wx T #[.int .i64 N, v, .slice none 0 0] 27 ∧ Blk wx w.heap.size #[.int .i64 0, .slice none 0 0, .slice none 0 0] 27 ∧ BldD wx B hi v ds ∧ Src1 W0 g sv n wx ∧ Within g (g + 1) w wx
section
variable {W0 : World} {g : Nat} {sv : Value} {n : Nat} {w : World} {T : Nat} {N : Int} {B hi : Nat} {v : Value} {ds : List Dv} {wx wy : World}
theorem Lad.only (h : Lad W0 g sv n w T N B hi v ds wx) (ho : Only g wx wy) (hD : Src1 W0 g sv n wy) (h1 : g < w.heap.size) (h2 : w.heap.size < T) (h3 : T < B) : Lad W0 g sv n w T N B hi v ds wy :=
  ⟨ho.within.blk h.1 (by omega), ho.within.blk h.2.1 (by omega), h.2.2.1.only ho (by omega), hD, h.2.2.2.2.on ho.within⟩
theorem Lad.by (hb : Below wx.heap.size wx wy) (h : Lad W0 g sv n w T N B hi v ds wx) : Lad W0 g sv n w T N B hi v ds wy :=
  ⟨Blk.by hb h.1, Blk.by hb h.2.1, h.2.2.1.by hb, h.2.2.2.1.by hb, h.2.2.2.2.on (Within.ofBelow _ _ hb)⟩
theorem Lad.past {lo' hi' : Nat} (h : Lad W0 g sv n w T N B hi v ds wx) (hw : Within lo' hi' wx wy) (h0 : W0.heap.size ≤ g) (h1 : g < w.heap.size) (h2 : w.heap.size < T) (h3 : T < B) (h4 : B ≤ hi) (h5 : hi ≤ lo') : Lad W0 g sv n w T N B hi v ds wy :=
  ⟨hw.blk h.1 (by omega), hw.blk h.2.1 (by omega), BldD.past hw h.2.2.1 (by omega), Src1.within hw h.2.2.2.1 (by omega) (by omega), h.2.2.2.2.newerM hw (by omega)⟩
end

set_option maxRecDepth 100000 in
set_option maxHeartbeats 8000000 in
theorem l28DrawLadder_any (W0 : World) (g : Nat) (sv : Value) (n : Nat) (w : World) (hD : Src1 W0 g sv n w) :
    Calls Try.prog 49 #[.pointer (some ⟨g, 0, none⟩)] w fun e w' => ∃ (v : Value) (x : Nl), e = .returned v ∧ Hid (NlO w.heap.size w' v x) ∧ Hid (Small x) ∧ Hid (Src1 W0 g sv n w') ∧ Hid (Within g (g + 1) w w') := by
  have HN := Lib.hid (fun q w h hq => l01Next_any W0 g sv n q w h hq)
  have hgl := hD.lt
  have hW0 : W0.heap.size ≤ g := hD.1
  have HD := Lib.hid hD
  clear hD
  go_enter Try.func49, Try.ntmps49
  go_wp2_with fail
  refine (HN.out _ _ (HD.out.by (by ((repeat (first | (with_reducible exact Below.refl _ _) | (with_reducible refine below_drewN ?_ _) | (with_reducible refine Below.drew ?_) | (with_reducible refine below_al ?_ _) | (with_reducible refine below_on (by assumption) ?_) | ((with_reducible refine Below.setCell ?_ ?_ _); rotate_left; focus (first | omega | (simp; done) | (simp; omega))) | (with_reducible assumption))); done))) (by omega)).mono ?_
  rintro e w1 ⟨a, rfl, ha0, ha1, hD1, ho1⟩
  have kZ0 : Blk (w.alloc (.cells #[.int .i64 0, .slice none 0 0, .slice none 0 0] 27)) w.heap.size #[.int .i64 0, .slice none 0 0, .slice none 0 0] 27 := Blk.new _ rfl
  have kZ := ho1.within.blk kZ0 (by omega)
  have hW1 : Within g (g + 1) w w1 := ((Within.refl g (g + 1) w).alloc _).on ho1.within
  have wa : IntKind.i64.wrap (3 + a) = 3 + a := by simp [IntKind.wrap, IntKind.bits, IntKind.signed]; omega
  have lZ := kZ.lt
  obtain ⟨N, hN⟩ : ∃ N, 3 + a = N := ⟨_, rfl⟩
  have hNb : 3 ≤ N ∧ N ≤ 5 := by omega
  rw [hN] at wa
  have hbA : Below w1.heap.size w1 (w1.alloc (.cells #[.int .i64 N, .slice none 0 0, .slice none 0 0] 27)) := (Below.refl _ w1).alloc (Nat.le_refl _) _
  have k3 : Blk (w1.alloc (.cells #[.int .i64 N, .slice none 0 0, .slice none 0 0] 27)) w1.heap.size #[.int .i64 N, .slice none 0 0, .slice none 0 0] 27 := Blk.new _ rfl
  have hsA : w1.heap.size + 1 ≤ (w1.alloc (.cells #[.int .i64 N, .slice none 0 0, .slice none 0 0] 27)).heap.size := by simp
  have hBl := BldD.nil (w1.alloc (.cells #[.int .i64 N, .slice none 0 0, .slice none 0 0] 27)) (w1.heap.size + 1)
  have hL0 : Lad W0 g sv n w w1.heap.size N (w1.heap.size + 1) (w1.alloc (.cells #[.int .i64 N, .slice none 0 0, .slice none 0 0] 27)).heap.size (.slice none 0 0) [] (w1.alloc (.cells #[.int .i64 N, .slice none 0 0, .slice none 0 0] 27)) := ⟨k3, Blk.by hbA kZ, hBl, hD1.by hbA, hW1.on (Within.ofBelow _ _ hbA)⟩
  have HL0 := Lib.hid hL0
  clear kZ0 kZ hW1 hD1 ho1 hbA k3 hBl hL0
  go_upto_region 2 with fail
  generalize w1.alloc (.cells #[.int .i64 N, .slice none 0 0, .slice none 0 0] 27) = w2 at *
  obtain ⟨T, hT⟩ : ∃ T, w1.heap.size = T := ⟨_, rfl⟩
  (try rw [hT])
  rw [hT] at HL0 hsA lZ
  clear hT
  go_wp2_with fail
  refine (HN.out _ _ HL0.out.2.2.2.1 (by omega)).mono ?_
  rintro e w3 ⟨kd, rfl, hk0, hk1, hD3, ho3⟩
  have HL3 := Lib.hid (HL0.out.only ho3 hD3 (by omega) (by omega) (by omega))
  clear hD3 HL0
  go_wp2_with fail
  refine (HN.out _ _ HL3.out.2.2.2.1 (by omega)).mono ?_
  rintro e w4 ⟨m, rfl, hm0, hm1, hD4, ho4⟩
  have HL4 := Lib.hid (HL3.out.only ho4 hD4 (by omega) (by omega) (by omega))
  have wm : IntKind.i64.wrap (1 + m) = 1 + m := by simp [IntKind.wrap, IntKind.bits, IntKind.signed]; omega
  obtain ⟨M, hM⟩ : ∃ M : Nat, 1 + m = M := ⟨(1 + m).toNat, by omega⟩
  have hMb : 1 ≤ M ∧ M ≤ 6 := by omega
  rw [hM] at wm
  have hs2 : w2.heap.size ≤ w4.heap.size := by have := ho3.within.size; have := ho4.within.size; omega
  clear hD4 HL3 ho3 ho4
  go_wp2
  -- the loop
  go_loopw [5] (fun z wr => ∃ (q : Nat) (v : Value) (ds : List Dv) (hi : Nat), Hid (z = .int .i64 (q : Int)) ∧ Hid (ds.length + q = M) ∧ Hid (T + 1 ≤ hi) ∧ Hid (∀ d ∈ ds, 2 ≤ d.pins.length ∧ d.pins.length ≤ 3) ∧ Hid (Lad W0 g sv n w T N (T + 1) hi v ds wr)) (fun z _ => (intOf z).toNat)
  case atStart => exact ⟨M, .slice none 0 0, [], w2.heap.size, Lib.hid (by first | rfl | (rw [wm])), Lib.hid (by simp), Lib.hid hsA, Lib.hid (by simp), HL4⟩
  case round =>
    clear HL4
    have lZT : w.heap.size < T := by omega
    obtain ⟨q, v, ds, hi, HZQ, HQ, HBH, HPN, HL⟩ := hrel
    obtain rfl := HZQ.out
    have hql := HQ.out
    have hBhi := HBH.out
    obtain ⟨av, cv, rfl⟩ := HL.out.2.2.1.sized
    have hhi := HL.out.2.2.1.1
    have c3 := HL.out.1.cell
    have l3 := HL.out.1.lt
    clear HZQ
    by_cases hq : 0 < q
    · obtain ⟨r, rfl⟩ : ∃ r, q = r + 1 := ⟨q - 1, by omega⟩
      have i1 : (0 : Int) < ((r + 1 : Nat) : Int) := by omega
      have wq : IntKind.i64.wrap (((r + 1 : Nat) : Int) - 1) = (r : Int) := by simp [IntKind.wrap, IntKind.bits, IntKind.signed]; omega
      have wN : IntKind.i64.wrap (N - 1) = N - 1 := by simp [IntKind.wrap, IntKind.bits, IntKind.signed]; omega
      go_wp2_with fail
      refine (HN.out _ _ HL.out.2.2.2.1 (by omega)).mono ?_
      rintro e w5 ⟨p1, rfl, hp0, hp1, hD5, ho5⟩
      have HL5 := Lib.hid (HL.out.only ho5 hD5 (by omega) (by omega) (by omega))
      have hs5 : wr.heap.size ≤ w5.heap.size := ho5.within.size
      have wp : IntKind.i64.wrap (p1 + 1) = p1 + 1 := by simp [IntKind.wrap, IntKind.bits, IntKind.signed]; omega
      clear hD5 ho5 HL c3 l3
      have c3 := HL5.out.1.cell
      have l3 := HL5.out.1.lt
      go_wp2_with fail
      refine (HN.out _ _ HL5.out.2.2.2.1 (by omega)).mono ?_
      rintro e w6 ⟨y, rfl, hy0, hy1, hD6, ho6⟩
      have HL6 := Lib.hid (HL5.out.only ho6 hD6 (by omega) (by omega) (by omega))
      have hs6 : w5.heap.size ≤ w6.heap.size := ho6.within.size
      clear hD6 ho6 HL5 c3 l3
      have c3 := HL6.out.1.cell
      have l3 := HL6.out.1.lt
      go_upto_if 33 with fail
      go_cut [7] (fun s wx => ∃ b : Int, s = .int .i64 b ∧ Hid (w6.heap.size ≤ wx.heap.size) ∧ Hid (Lad W0 g sv n w T N (T + 1) hi (.slice av ds.length cv) ds wx))
      case first =>
        by_cases hy : y = 0
        · subst hy
          go_wp2_with fail
          refine (HN.out _ _ HL6.out.2.2.2.1 (by omega)).mono ?_
          rintro e w7 ⟨b, rfl, hb0, hb1, hD7, ho7⟩
          go_wp2
          go_meet
          exact ⟨b, rfl, Lib.hid ho7.within.size, Lib.hid (HL6.out.only ho7 hD7 (by omega) (by omega) (by omega))⟩
        · go_wp2_with fail
          go_meet
          exact ⟨p1 + 1, rfl, Lib.hid (Nat.le_refl _), HL6⟩
      case rest =>
        obtain ⟨b, rfl, HS7, HL7⟩ := hcut
        have hs7 := HS7.out
        have c3 := HL7.out.1.cell
        have l3 := HL7.out.1.lt
        clear HL6
        go_upto_region 10 with fail
        go_cut [8] (fun s wx => ∃ (D f : Nat) (pv : Value) (zs : List Int) (W L : Int), s = .pointer (some ⟨D, 0, none⟩) ∧ Hid (Blk wx D #[.int .i64 kd, pv, .int .i64 W, .int .i64 L] 35) ∧ Hid (BldI wx f (f + 1) pv zs) ∧ Hid (zs.length = 3) ∧ Hid (hi ≤ f ∧ hi ≤ D ∧ f ≠ D) ∧ Hid (Lad W0 g sv n w T N (T + 1) hi (.slice av ds.length cv) ds wx))
        case first =>
          go_region_law
            (go_simp; go_at_call 18; refine (HN.out _ _ (HL7.out.2.2.2.1.by (by ((repeat (first | (with_reducible exact Below.refl _ _) | (with_reducible refine below_drewN ?_ _) | (with_reducible refine Below.drew ?_) | (with_reducible refine below_al ?_ _) | (with_reducible refine below_on (by assumption) ?_) | ((with_reducible refine Below.setCell ?_ ?_ _); rotate_left; focus (first | omega | (simp; done) | (simp; omega))) | (with_reducible assumption))); done))) (by omega)).mono ?_; rintro e w8 ⟨z, rfl, hz0, hz1, hD8, ho8⟩; have HL8 := Lib.hid ((HL7.out.by (by ((repeat (first | (with_reducible exact Below.refl _ _) | (with_reducible refine below_drewN ?_ _) | (with_reducible refine Below.drew ?_) | (with_reducible refine below_al ?_ _) | (with_reducible refine below_on (by assumption) ?_) | ((with_reducible refine Below.setCell ?_ ?_ _); rotate_left; focus (first | omega | (simp; done) | (simp; omega))) | (with_reducible assumption))); done))).only ho8 hD8 (by omega) (by omega) (by omega)); have hs8' : wc.heap.size ≤ w8.heap.size := (by have h := ho8.within.size; simp at h; omega); have c8 := HL8.out.1.cell; have l8 := HL8.out.1.lt; (try (refine with_fact (p := Blk w8 (wc.heap.size) #[.int .i64 (N - 1), .int .i64 p1, .int .i64 b] 2) (ho8.within.blk ?_ (by omega)) ?_; (focus ((repeat (first | (with_reducible assumption) | (with_reducible refine Blk.drewN ?_ _) | (with_reducible refine Blk.drew ?_) | ((with_reducible refine Blk.new _ ?_); focus (first | omega | (simp; done) | (simp; omega))) | (with_reducible refine Blk.past ?_ _) | ((with_reducible refine Blk.apart ?_ _ _ _ ?_); rotate_left; focus (first | omega | (simp; done) | (simp; omega))) | (with_reducible refine Blk.by (by assumption) ?_))); done)); intro kL1; have lkL1 := kL1.lt)); (try (refine with_fact (p := Blk w8 (wc.heap.size + 1) #[.int .i64 (N - 1), .int .i64 p1, .int .i64 b] 2) (ho8.within.blk ?_ (by omega)) ?_; (focus ((repeat (first | (with_reducible assumption) | (with_reducible refine Blk.drewN ?_ _) | (with_reducible refine Blk.drew ?_) | ((with_reducible refine Blk.new _ ?_); focus (first | omega | (simp; done) | (simp; omega))) | (with_reducible refine Blk.past ?_ _) | ((with_reducible refine Blk.apart ?_ _ _ _ ?_); rotate_left; focus (first | omega | (simp; done) | (simp; omega))) | (with_reducible refine Blk.by (by assumption) ?_))); done)); intro kL2; have lkL2 := kL2.lt)); (try (refine with_fact (p := Blk w8 (wc.heap.size) #[.int .i64 0, .slice none 0 0, .int .i64 0, .int .i64 0] 35) (ho8.within.blk ?_ (by omega)) ?_; (focus ((repeat (first | (with_reducible assumption) | (with_reducible refine Blk.drewN ?_ _) | (with_reducible refine Blk.drew ?_) | ((with_reducible refine Blk.new _ ?_); focus (first | omega | (simp; done) | (simp; omega))) | (with_reducible refine Blk.past ?_ _) | ((with_reducible refine Blk.apart ?_ _ _ _ ?_); rotate_left; focus (first | omega | (simp; done) | (simp; omega))) | (with_reducible refine Blk.by (by assumption) ?_))); done)); intro kD1; have lkD1 := kD1.lt; have ckD1 := kD1.cell; have fkD1 := kD1.free)); (try (refine with_fact (p := Blk w8 (wc.heap.size + 1) #[.int .i64 0, .slice none 0 0, .int .i64 0, .int .i64 0] 35) (ho8.within.blk ?_ (by omega)) ?_; (focus ((repeat (first | (with_reducible assumption) | (with_reducible refine Blk.drewN ?_ _) | (with_reducible refine Blk.drew ?_) | ((with_reducible refine Blk.new _ ?_); focus (first | omega | (simp; done) | (simp; omega))) | (with_reducible refine Blk.past ?_ _) | ((with_reducible refine Blk.apart ?_ _ _ _ ?_); rotate_left; focus (first | omega | (simp; done) | (simp; omega))) | (with_reducible refine Blk.by (by assumption) ?_))); done)); intro kD2; have lkD2 := kD2.lt; have ckD2 := kD2.cell; have fkD2 := kD2.free)); have hs8 := Lib.hid ho8.within.size; clear hD8 ho8)
          all_goals
            have hs8'' : wc.heap.size ≤ w8.heap.size := hs8'
            go_wp2_with fail
            go_meet
            first
            | (have hG := And.intro kD2 kL1
               with_reducible refine ⟨wc.heap.size + 1, wc.heap.size, (.slice (some ⟨wc.heap.size, 0, none⟩) 3 3), [N - 1, p1, b], (IntKind.i64.wrap (1 + IntKind.i64.wrap (z.tdiv 2))), 1, rfl, ?_⟩
               have hW : Within (wc.heap.size + 1) (wc.heap.size + 1 + 1) w8 ((((w8.setCell ⟨wc.heap.size + 1, 0, none⟩ (.int .i64 kd)).setCell ⟨wc.heap.size + 1, 1, none⟩ (.slice (some ⟨wc.heap.size, 0, none⟩) 3 3)).setCell ⟨wc.heap.size + 1, 2, none⟩ (.int .i64 (IntKind.i64.wrap (1 + IntKind.i64.wrap (z.tdiv 2))))).setCell ⟨wc.heap.size + 1, 3, none⟩ (.int .i64 1)) := (((Within.off _).on (Within.off _)).on (Within.off _)).on (Within.off _)
               have kF : Blk ((((w8.setCell ⟨wc.heap.size + 1, 0, none⟩ (.int .i64 kd)).setCell ⟨wc.heap.size + 1, 1, none⟩ (.slice (some ⟨wc.heap.size, 0, none⟩) 3 3)).setCell ⟨wc.heap.size + 1, 2, none⟩ (.int .i64 (IntKind.i64.wrap (1 + IntKind.i64.wrap (z.tdiv 2))))).setCell ⟨wc.heap.size + 1, 3, none⟩ (.int .i64 1)) (wc.heap.size + 1) #[.int .i64 kd, (.slice (some ⟨wc.heap.size, 0, none⟩) 3 3), .int .i64 (IntKind.i64.wrap (1 + IntKind.i64.wrap (z.tdiv 2))), .int .i64 1] 35 := by simpa using (((kD2.set 0 (.int .i64 kd)).set 1 (.slice (some ⟨wc.heap.size, 0, none⟩) 3 3)).set 2 (.int .i64 (IntKind.i64.wrap (1 + IntKind.i64.wrap (z.tdiv 2))))).set 3 (.int .i64 1)
               exact ⟨Lib.hid kF, Lib.hid (BldI.past hW (BldI.lit (zs := [N - 1, p1, b]) kL1 rfl (by simp) (Nat.le_refl _) (Nat.lt_succ_self _) (by omega)) (by omega)), Lib.hid rfl, Lib.hid ⟨by omega, by omega, by omega⟩, Lib.hid (HL8.out.past hW hW0 hgl lZT (by omega) hBhi (by omega))⟩)
            | (have hG := And.intro kD1 kL2
               with_reducible refine ⟨wc.heap.size, wc.heap.size + 1, (.slice (some ⟨wc.heap.size + 1, 0, none⟩) 3 3), [N - 1, p1, b], (IntKind.i64.wrap (1 + IntKind.i64.wrap (z.tdiv 2))), 1, rfl, ?_⟩
               have hW : Within (wc.heap.size) (wc.heap.size + 1) w8 ((((w8.setCell ⟨wc.heap.size, 0, none⟩ (.int .i64 kd)).setCell ⟨wc.heap.size, 1, none⟩ (.slice (some ⟨wc.heap.size + 1, 0, none⟩) 3 3)).setCell ⟨wc.heap.size, 2, none⟩ (.int .i64 (IntKind.i64.wrap (1 + IntKind.i64.wrap (z.tdiv 2))))).setCell ⟨wc.heap.size, 3, none⟩ (.int .i64 1)) := (((Within.off _).on (Within.off _)).on (Within.off _)).on (Within.off _)
               have kF : Blk ((((w8.setCell ⟨wc.heap.size, 0, none⟩ (.int .i64 kd)).setCell ⟨wc.heap.size, 1, none⟩ (.slice (some ⟨wc.heap.size + 1, 0, none⟩) 3 3)).setCell ⟨wc.heap.size, 2, none⟩ (.int .i64 (IntKind.i64.wrap (1 + IntKind.i64.wrap (z.tdiv 2))))).setCell ⟨wc.heap.size, 3, none⟩ (.int .i64 1)) (wc.heap.size) #[.int .i64 kd, (.slice (some ⟨wc.heap.size + 1, 0, none⟩) 3 3), .int .i64 (IntKind.i64.wrap (1 + IntKind.i64.wrap (z.tdiv 2))), .int .i64 1] 35 := by simpa using (((kD1.set 0 (.int .i64 kd)).set 1 (.slice (some ⟨wc.heap.size + 1, 0, none⟩) 3 3)).set 2 (.int .i64 (IntKind.i64.wrap (1 + IntKind.i64.wrap (z.tdiv 2))))).set 3 (.int .i64 1)
               exact ⟨Lib.hid kF, Lib.hid (BldI.past hW (BldI.lit (zs := [N - 1, p1, b]) kL2 rfl (by simp) (Nat.le_refl _) (Nat.lt_succ_self _) (by omega)) (by omega)), Lib.hid rfl, Lib.hid ⟨by omega, by omega, by omega⟩, Lib.hid (HL8.out.past hW hW0 hgl lZT (by omega) hBhi (by omega))⟩)
            | (have hG := And.intro kD1 kD1
               with_reducible refine ⟨wc.heap.size, w8.heap.size, (.slice (some ⟨w8.heap.size, 0, none⟩) 3 3), [N - 1, p1, b], (IntKind.i64.wrap (1 + IntKind.i64.wrap (z.tdiv 2))), 1, rfl, ?_⟩
               have hW : Within (wc.heap.size) (wc.heap.size + 1) w8 ((((w8.setCell ⟨wc.heap.size, 0, none⟩ (.int .i64 kd)).setCell ⟨wc.heap.size, 1, none⟩ (.slice (some ⟨w8.heap.size, 0, none⟩) 3 3)).setCell ⟨wc.heap.size, 2, none⟩ (.int .i64 (IntKind.i64.wrap (1 + IntKind.i64.wrap (z.tdiv 2))))).setCell ⟨wc.heap.size, 3, none⟩ (.int .i64 1)) := (((Within.off _).on (Within.off _)).on (Within.off _)).on (Within.off _)
               have kF : Blk ((((w8.setCell ⟨wc.heap.size, 0, none⟩ (.int .i64 kd)).setCell ⟨wc.heap.size, 1, none⟩ (.slice (some ⟨w8.heap.size, 0, none⟩) 3 3)).setCell ⟨wc.heap.size, 2, none⟩ (.int .i64 (IntKind.i64.wrap (1 + IntKind.i64.wrap (z.tdiv 2))))).setCell ⟨wc.heap.size, 3, none⟩ (.int .i64 1)) (wc.heap.size) #[.int .i64 kd, (.slice (some ⟨w8.heap.size, 0, none⟩) 3 3), .int .i64 (IntKind.i64.wrap (1 + IntKind.i64.wrap (z.tdiv 2))), .int .i64 1] 35 := by simpa using (((kD1.set 0 (.int .i64 kd)).set 1 (.slice (some ⟨w8.heap.size, 0, none⟩) 3 3)).set 2 (.int .i64 (IntKind.i64.wrap (1 + IntKind.i64.wrap (z.tdiv 2))))).set 3 (.int .i64 1)
               exact ⟨Lib.hid (kF.past _), Lib.hid (BldI.lit (zs := [N - 1, p1, b]) (Blk.new _ (by simp)) rfl (by simp) (Nat.le_refl _) (Nat.lt_succ_self _) (by simp)), Lib.hid rfl, Lib.hid ⟨by omega, by omega, by omega⟩, Lib.hid ((HL8.out.past hW hW0 hgl lZT (by omega) hBhi (by omega)).by ((Below.refl _ _).alloc (Nat.le_refl _) _))⟩)
            | (have hG := kL1
               with_reducible refine ⟨w8.heap.size, wc.heap.size, (.slice (some ⟨wc.heap.size, 0, none⟩) 3 3), [N - 1, p1, b], (IntKind.i64.wrap (1 + IntKind.i64.wrap (z.tdiv 2))), 1, rfl, ?_⟩
               exact ⟨Lib.hid (Blk.new _ rfl), Lib.hid ((BldI.lit (zs := [N - 1, p1, b]) kL1 rfl (by simp) (Nat.le_refl _) (Nat.lt_succ_self _) (by omega)).by ((Below.refl _ w8).alloc (Nat.le_refl _) _)), Lib.hid rfl, Lib.hid ⟨by omega, by omega, by omega⟩, Lib.hid (HL8.out.by ((Below.refl _ w8).alloc (Nat.le_refl _) _))⟩)
            | (with_reducible refine ⟨w8.heap.size + 1, w8.heap.size, (.slice (some ⟨w8.heap.size, 0, none⟩) 3 3), [N - 1, p1, b], (IntKind.i64.wrap (1 + IntKind.i64.wrap (z.tdiv 2))), 1, rfl, ?_⟩
               exact ⟨Lib.hid (Blk.new _ (by simp)), Lib.hid (BldI.lit (zs := [N - 1, p1, b]) ((Blk.new _ rfl).past _) rfl (by simp) (Nat.le_refl _) (Nat.lt_succ_self _) (by simp)), Lib.hid rfl, Lib.hid ⟨by omega, by omega, by omega⟩, Lib.hid (HL8.out.by (Below.alloc ((Below.refl _ w8).alloc (Nat.le_refl _) _) (by simp) _))⟩)
            | (with_reducible refine ⟨w8.heap.size, w8.heap.size + 1, (.slice (some ⟨w8.heap.size + 1, 0, none⟩) 3 3), [N - 1, p1, b], (IntKind.i64.wrap (1 + IntKind.i64.wrap (z.tdiv 2))), 1, rfl, ?_⟩
               exact ⟨Lib.hid ((Blk.new _ rfl).past _), Lib.hid (BldI.lit (zs := [N - 1, p1, b]) (Blk.new _ (by simp)) rfl (by simp) (Nat.le_refl _) (Nat.lt_succ_self _) (by simp)), Lib.hid rfl, Lib.hid ⟨by omega, by omega, by omega⟩, Lib.hid (HL8.out.by (Below.alloc ((Below.refl _ w8).alloc (Nat.le_refl _) _) (by simp) _))⟩)
        case rest =>
          obtain ⟨D, f, pv, zs, W, L, rfl, HDv, HBF, HZL, HBD, HL8⟩ := hcut
          obtain ⟨pva, pvc, rfl⟩ := HBF.out.sized
          have hDw : D < wc.heap.size := HDv.out.lt
          have hbd := HBD.out
          have hzl := HZL.out
          clear HL7 HS7
          have hlz : hi ≤ wc.heap.size := HL8.out.2.2.1.1
          go_upto_if 51 with fail
          go_cut [8] (fun s wx => s = .pointer (some ⟨D, 0, none⟩) ∧ ∃ (f : Nat) (pv : Value) (zs : List Int) (W L : Int), Hid (Blk wx D #[.int .i64 kd, pv, .int .i64 W, .int .i64 L] 35) ∧ Hid (BldI wx f (f + 1) pv zs) ∧ Hid (2 ≤ zs.length ∧ zs.length ≤ 3) ∧ Hid (hi ≤ f ∧ f ≠ D) ∧ Hid (Lad W0 g sv n w T N (T + 1) hi (.slice av ds.length cv) ds wx))
          case first =>
            have kD := HDv.out
            have cD := kD.cell
            have fD := kD.free
            have lD := kD.lt
            by_cases hk : kd = 2
            · subst hk
              go_wp2_with fail
              have hWs : Within D (D + 1) wc (wc.setCell ⟨D, 1, none⟩ (.slice (some ⟨wc.heap.size, 0, none⟩) 2 2)) := Within.off _
              have hbA : Below (wc.setCell ⟨D, 1, none⟩ (.slice (some ⟨wc.heap.size, 0, none⟩) 2 2)).heap.size (wc.setCell ⟨D, 1, none⟩ (.slice (some ⟨wc.heap.size, 0, none⟩) 2 2)) ((wc.setCell ⟨D, 1, none⟩ (.slice (some ⟨wc.heap.size, 0, none⟩) 2 2)).alloc (.cells #[.int .i64 p1, .int .i64 b] 2)) := (Below.refl _ _).alloc (Nat.le_refl _) _
              have HLA := Lib.hid ((HL8.out.past hWs hW0 hgl lZT (by omega) hBhi (by omega)).by hbA)
              have kDA : Blk ((wc.setCell ⟨D, 1, none⟩ (.slice (some ⟨wc.heap.size, 0, none⟩) 2 2)).alloc (.cells #[.int .i64 p1, .int .i64 b] 2)) D #[.int .i64 2, .slice (some ⟨wc.heap.size, 0, none⟩) 2 2, .int .i64 W, .int .i64 L] 35 := (kD.set 1 _).past _
              have kLA : Blk ((wc.setCell ⟨D, 1, none⟩ (.slice (some ⟨wc.heap.size, 0, none⟩) 2 2)).alloc (.cells #[.int .i64 p1, .int .i64 b] 2)) wc.heap.size #[.int .i64 p1, .int .i64 b] 2 := Blk.new _ (by simp)
              have HBA := Lib.hid (BldI.lit (zs := [p1, b]) kLA rfl (by simp) (Nat.le_refl _) (Nat.lt_succ_self _) (by simp))
              clear kLA hbA hWs cD fD kD
              refine (HN.out _ _ HLA.out.2.2.2.1 (by omega)).mono ?_
              rintro e w9 ⟨y2, rfl, hz0, hz1, hD9, ho9⟩
              have HL9 := Lib.hid (HLA.out.only ho9 hD9 (by omega) (by omega) (by omega))
              have kD9 := ho9.within.blk kDA (by omega)
              have HB9 := Lib.hid (HBA.out.only ho9 (by omega))
              clear hD9 ho9 HLA kDA HBA lD
              have cD := kD9.cell
              have fD := kD9.free
              have lD := kD9.lt
              by_cases hy2 : y2 = 0
              · subst hy2
                have hWs : Within D (D + 1) w9 (w9.setCell ⟨D, 2, none⟩ (.int .i64 1)) := Within.off _
                have HLs := Lib.hid (HL9.out.past hWs hW0 hgl lZT (by omega) hBhi (by omega))
                have HBs := Lib.hid (BldI.past hWs HB9.out (by omega))
                have kDs := kD9.set 2 (.int .i64 1)
                go_wp2_with (go_at_call 18; refine (HN.out _ _ HLs.out.2.2.2.1 (by omega)).mono ?_; rintro e w10 ⟨y3, rfl, hq0, hq1, hD10, ho10⟩; have HL10 := Lib.hid (HLs.out.only ho10 hD10 (by omega) (by omega) (by omega)); have kD10 := ho10.within.blk kDs (by omega); have HB10 := Lib.hid (HBs.out.only ho10 (by omega)); have c10 := kD10.cell; have f10 := kD10.free; have l10 := kD10.lt; clear hD10 ho10)
                go_meet
                have hWt : Within D (D + 1) w10 (w10.setCell ⟨D, 3, none⟩ (.int .i64 ((2 + y3)))) := Within.off _
                exact ⟨rfl, wc.heap.size, _, [p1, b], 1, (2 + y3), Lib.hid (kD10.set 3 _), Lib.hid (BldI.past hWt HB10.out (by omega)), Lib.hid (by simp), Lib.hid ⟨by omega, by omega⟩, Lib.hid (HL10.out.past hWt hW0 hgl lZT (by omega) hBhi (by omega))⟩
              · go_wp2_with fail
                go_meet
                exact ⟨rfl, wc.heap.size, _, [p1, b], W, L, Lib.hid kD9, HB9, Lib.hid (by simp), Lib.hid ⟨by omega, by omega⟩, HL9⟩
            · go_wp2_with fail
              refine (HN.out _ _ HL8.out.2.2.2.1 (by omega)).mono ?_
              rintro e w9 ⟨y2, rfl, hz0, hz1, hD9, ho9⟩
              have HL9 := Lib.hid (HL8.out.only ho9 hD9 (by omega) (by omega) (by omega))
              have kD9 := ho9.within.blk kD (by omega)
              have HB9 := Lib.hid (HBF.out.only ho9 (by omega))
              clear hD9 ho9 cD fD lD kD
              have cD := kD9.cell
              have fD := kD9.free
              have lD := kD9.lt
              by_cases hy2 : y2 = 0
              · subst hy2
                go_wp2_with fail
                go_meet
                have hWt : Within D (D + 1) w9 (w9.setCell ⟨D, 3, none⟩ (.int .i64 2)) := Within.off _
                exact ⟨rfl, f, _, zs, W, 2, Lib.hid (kD9.set 3 _), Lib.hid (BldI.past hWt HB9.out (by omega)), Lib.hid (by omega), Lib.hid ⟨by omega, by omega⟩, Lib.hid (HL9.out.past hWt hW0 hgl lZT (by omega) hBhi (by omega))⟩
              · go_wp2_with fail
                go_meet
                exact ⟨rfl, f, _, zs, W, L, Lib.hid kD9, HB9, Lib.hid (by omega), Lib.hid ⟨by omega, by omega⟩, HL9⟩
          case rest =>
            obtain ⟨rfl, f2, pv2, zs2, W2, L2, HD2, HB2, HZ2, HF2, HLr⟩ := hcut
            clear HDv HBF HL8 HZL HBD
            obtain ⟨pva2, pvc2, rfl⟩ := HB2.out.sized
            have hz2 := HZ2.out
            have hf2 := HF2.out
            have hD2w := HD2.out.lt
            have hlz2 : hi ≤ wc.heap.size := HLr.out.2.2.1.1
            have cD := HD2.out.cell
            have lD := HD2.out.lt
            go_wp2_with fail
            refine (HN.out _ _ HLr.out.2.2.2.1 (by omega)).mono ?_
            rintro e w11 ⟨y4, rfl, hq0, hq1, hD11, ho11⟩
            have HL11 := Lib.hid (HLr.out.only ho11 hD11 (by omega) (by omega) (by omega))
            have kD11 := ho11.within.blk HD2.out (by omega)
            have HB11 := Lib.hid (HB2.out.only ho11 (by omega))
            have hs11 : wc.heap.size ≤ w11.heap.size := ho11.within.size
            clear hD11 ho11 HLr HD2 HB2 cD lD
            have cD := kD11.cell
            have fD := kD11.free
            have lD := kD11.lt
            go_upto_if 70 with fail
            go_cut [8] (fun s wx => s = .pointer (some ⟨D, 0, none⟩) ∧ ∃ (zs : List Int), Hid (Blk wx D #[.int .i64 kd, .slice pva2 zs2.length pvc2, .int .i64 W2, .int .i64 L2] 35) ∧ Hid (BldI wx f2 (f2 + 1) (.slice pva2 zs2.length pvc2) zs) ∧ Hid (zs.length = zs2.length) ∧ Hid (w11.heap.size ≤ wx.heap.size) ∧ Hid (Lad W0 g sv n w T N (T + 1) hi (.slice av ds.length cv) ds wx))
            case first =>
              by_cases hy4 : y4 = 0
              · subst hy4
                obtain ⟨k, hk⟩ : ∃ k, zs2.length = k + 2 := ⟨zs2.length - 2, by omega⟩
                have hk1 : k ≤ 1 := by omega
                obtain ⟨G, cap, cs, hv, hG, hBk, hcell⟩ := HB11.out.blk (by omega)
                obtain ⟨rfl, rfl⟩ : pva2 = some ⟨G, 0, none⟩ ∧ pvc2 = cap := by simpa using hv
                obtain ⟨x1, hx1⟩ : ∃ x, zs2[k]? = some x := ⟨zs2[k]'(by omega), List.getElem?_eq_getElem _⟩
                obtain ⟨x2, hx2⟩ : ∃ x, zs2[k + 1]? = some x := ⟨zs2[k + 1]'(by omega), List.getElem?_eq_getElem _⟩
                have hc1 := hcell k x1 hx1
                have hc2 := hcell (k + 1) x2 hx2
                have HC1 := Lib.hid hc1
                have HC2 := Lib.hid hc2
                have HBK := Lib.hid hBk
                have wk : IntKind.i64.wrap ((k : Int) + 1) = (k : Int) + 1 := by simp [IntKind.wrap, IntKind.bits, IntKind.signed]; omega
                have hto : ((k : Int) + 1).toNat = k + 1 := by omega
                have j1 : (0 : Int) ≤ (k : Int) := by omega
                have j2 : (k : Int) < ((k + 2 : Nat) : Int) := by omega
                have j3 : (k : Int) + 1 < ((k + 2 : Nat) : Int) := by omega
                have j4 : (0 : Int) ≤ (k : Int) + 1 := by omega
                have j5 : (k : Int) < (k : Int) + 2 := by omega
                have j6 : (k : Int) + 1 < (k : Int) + 2 := by omega
                clear hcell hc1 hc2 hBk hv hx1 hx2
                go_upto_region 21 with (go_at_call 71; refine (l28First_any kd W2 L2 _ k _ (by omega) _).mono ?_; rintro e w12 ⟨rfl, hb12⟩; have HL12 := Lib.hid (HL11.out.by hb12); have kD12 := Blk.by hb12 kD11; have HB12 := Lib.hid (HB11.out.by hb12); have kG12 := Blk.by hb12 HBK.out; have e1 := cell_by' hb12 HC1.out; have e2 := cell_by' hb12 HC2.out; have fG := kG12.free; have lG := kG12.lt; have cD12 := kD12.cell; have lD12 := kD12.lt; have hs12 := hb12.size)
                go_region
                all_goals
                  go_wp2_with fail
                  go_meet
                  have hWz : Within G (G + 1) w12 ((w12.setCell ⟨G, k, none⟩ (.int .i64 x2)).setCell ⟨G, k + 1, none⟩ (.int .i64 x1)) := (Within.off _).on (Within.off _)
                  exact ⟨rfl, (zs2.set k x2).set (k + 1) x1, Lib.hid (hWz.blk kD12 (by omega)), Lib.hid ((HB12.out.setAt k x2).setAt (k + 1) x1), Lib.hid (by simp), Lib.hid (by simpa using hs12), Lib.hid (Lad.by ((Below.refl _ _).drew) (HL12.out.past hWz hW0 hgl lZT (by omega) hBhi (by omega)))⟩
              · go_wp2_with fail
                go_meet
                exact ⟨rfl, zs2, Lib.hid kD11, HB11, Lib.hid rfl, Lib.hid (Nat.le_refl _), HL11⟩
            case rest =>
              obtain ⟨rfl, zs3, HD3, HB3, HZ3, HS3, HL3⟩ := hcut
              have hs3 := HS3.out
              have hz3 := HZ3.out
              clear HL11 kD11 HB11 cD fD lD
              have cD := HD3.out.cell
              have lD := HD3.out.lt
              have k3 := HL3.out.1
              have c3 := k3.cell
              have l3 := k3.lt
              have hl3 : hi ≤ wc.heap.size := HL3.out.2.2.1.1
              have hbf := HB3.out.1
              go_wp2_with (refine list_pushD (by rfl) _ _ (by rfl) (T + 1) hi (.slice av ds.length cv) ds (by rfl) (HL3.out.2.2.1.by (by ((repeat (first | (with_reducible exact Below.refl _ _) | (with_reducible refine below_drewN ?_ _) | (with_reducible refine Below.drew ?_) | (with_reducible refine below_al ?_ _) | (with_reducible refine below_on (by assumption) ?_) | ((with_reducible refine Below.setCell ?_ ?_ _); rotate_left; focus (first | omega | (simp; done) | (simp; omega))) | (with_reducible assumption))); done))) wc.heap.size ⟨kd, zs3, W2, L2⟩ _ f2 (by rfl) (Blk.new _ rfl) (HB3.out.by ((Below.refl _ wc).alloc (Nat.le_refl _) _)) hBhi (by omega) (by simp; omega) (by omega) ?_; intro a8 c8 w8 hB8 hw8; have HB8 := Lib.hid hB8; have k58 := hw8.blk (k3.past (.cells #[.int .i64 kd, .slice pva2 zs2.length pvc2, .int .i64 W2, .int .i64 L2] 35)) (by omega); have c58 := k58.cell; have f58 := k58.free; have l58 := k58.lt; clear hB8)
              have hs8 := hw8.size
              simp only [World.size_alloc] at hs8
              have hbA : Below wc.heap.size wc (wc.alloc (.cells #[.int .i64 kd, .slice pva2 zs2.length pvc2, .int .i64 W2, .int .i64 L2] 35)) := (Below.refl _ wc).alloc (Nat.le_refl _) _
              have HD8 := Lib.hid (Src1.within hw8 (HL3.out.2.2.2.1.by hbA) (by omega) (by omega))
              have HZ8 := Lib.hid (hw8.blk (Blk.by hbA HL3.out.2.1) (by omega))
              have HW8 := Lib.hid ((HL3.out.2.2.2.2.alloc (.cells #[.int .i64 kd, .slice pva2 zs2.length pvc2, .int .i64 W2, .int .i64 L2] 35)).newerM hw8 (by omega))
              have HPN8 : Hid (∀ e ∈ ds ++ [(⟨kd, zs3, W2, L2⟩ : Dv)], 2 ≤ e.pins.length ∧ e.pins.length ≤ 3) := Lib.hid (by
                intro e he
                rcases List.mem_append.1 he with h | h
                · exact HPN.out e h
                · obtain rfl := List.mem_singleton.1 h; show 2 ≤ zs3.length ∧ zs3.length ≤ 3; omega)
              have HLE : Hid (Lad W0 g sv n w T N (T + 1) w8.heap.size (.slice a8 (ds.length + 1) c8) (ds ++ [(⟨kd, zs3, W2, L2⟩ : Dv)]) (w8.setCell ⟨T, 1, none⟩ (.slice a8 (ds.length + 1) c8))) := Lib.hid ⟨k58.set 1 _, HZ8.out.apart _ _ _ (by omega), by simpa using HB8.out.past (Within.off _) (.inl (by omega)), HD8.out.apart (by omega) (by omega), HW8.out.new _ _ _ (by omega)⟩
              exact ⟨⟨r, .slice a8 (ds.length + 1) c8, ds ++ [⟨kd, zs3, W2, L2⟩], w8.heap.size, Lib.hid (by first | rfl | (rw [wq])), Lib.hid (by simp; omega), Lib.hid (by omega), HPN8, HLE⟩, by simp [intOf] <;> omega⟩
    · obtain rfl : q = 0 := by omega
      have i1 : ¬ (0 : Int) < ((0 : Nat) : Int) := by omega
      have wN : IntKind.i64.wrap (N - 1) = N - 1 := by simp [IntKind.wrap, IntKind.bits, IntKind.signed]; omega
      have hdl : 0 < ds.length := by omega
      go_wp2_with fail
      refine (HN.out _ _ HL.out.2.2.2.1 (by omega)).mono ?_
      rintro e w5 ⟨z, rfl, hz0, hz1, hD5, ho5⟩
      have HL5 := Lib.hid (HL.out.only ho5 hD5 (by omega) (by omega) (by omega))
      have wz : IntKind.i64.wrap (1 + z) = 1 + z := by simp [IntKind.wrap, IntKind.bits, IntKind.signed]; omega
      have hs5 : wr.heap.size ≤ w5.heap.size := ho5.within.size
      clear hD5 ho5 HL c3 l3
      have k3 := HL5.out.1
      have c3 := k3.cell
      have f3 := k3.free
      have l3 := k3.lt
      go_wp2_with fail
      have hbA : Below (w5.setCell ⟨T, 2, none⟩ (.slice (some ⟨w5.heap.size, 0, none⟩) 2 2)).heap.size (w5.setCell ⟨T, 2, none⟩ (.slice (some ⟨w5.heap.size, 0, none⟩) 2 2)) ((w5.setCell ⟨T, 2, none⟩ (.slice (some ⟨w5.heap.size, 0, none⟩) 2 2)).alloc (.cells #[.string ⟨#[97]⟩, .int .i64 0, .string ⟨#[98]⟩, .int .i64 (1 + z)] 41)) := (Below.refl _ _).alloc (Nat.le_refl _) _
      have hWs : Within T (T + 1) w5 (w5.setCell ⟨T, 2, none⟩ (.slice (some ⟨w5.heap.size, 0, none⟩) 2 2)) := Within.off _
      have k36 : Blk ((w5.setCell ⟨T, 2, none⟩ (.slice (some ⟨w5.heap.size, 0, none⟩) 2 2)).alloc (.cells #[.string ⟨#[97]⟩, .int .i64 0, .string ⟨#[98]⟩, .int .i64 (1 + z)] 41)) T #[.int .i64 N, .slice av ds.length cv, (.slice (some ⟨w5.heap.size, 0, none⟩) 2 2)] 27 := (k3.set 2 _).past _
      have HZ6 := Lib.hid (Blk.by hbA (HL5.out.2.1.apart T 2 (.slice (some ⟨w5.heap.size, 0, none⟩) 2 2) (by omega)))
      have HBL6 := Lib.hid ((BldD.past hWs HL5.out.2.2.1 (.inl (by omega))).by hbA)
      have HD6 := Lib.hid ((HL5.out.2.2.2.1.apart (b := T) (o := 2) (v := (.slice (some ⟨w5.heap.size, 0, none⟩) 2 2)) (by omega) (by omega)).by hbA)
      have HW6 := Lib.hid ((HL5.out.2.2.2.2.new T 2 (.slice (some ⟨w5.heap.size, 0, none⟩) 2 2) (by omega)).alloc (.cells #[.string ⟨#[97]⟩, .int .i64 0, .string ⟨#[98]⟩, .int .i64 (1 + z)] 41))
      have kP : Blk ((w5.setCell ⟨T, 2, none⟩ (.slice (some ⟨w5.heap.size, 0, none⟩) 2 2)).alloc (.cells #[.string ⟨#[97]⟩, .int .i64 0, .string ⟨#[98]⟩, .int .i64 (1 + z)] 41)) w5.heap.size #[.string ⟨#[97]⟩, .int .i64 0, .string ⟨#[98]⟩, .int .i64 (1 + z)] 41 := Blk.new _ (by simp)
      have HPS0 : OwnPs ((w5.setCell ⟨T, 2, none⟩ (.slice (some ⟨w5.heap.size, 0, none⟩) 2 2)).alloc (.cells #[.string ⟨#[97]⟩, .int .i64 0, .string ⟨#[98]⟩, .int .i64 (1 + z)] 41)) w5.heap.size (w5.heap.size + 1) (.slice (some ⟨w5.heap.size, 0, none⟩) 2 2) [⟨⟨#[97]⟩, 0⟩, ⟨⟨#[98]⟩, 1 + z⟩] := .inr ⟨w5.heap.size, 2, _, rfl, ⟨Nat.le_refl _, Nat.lt_succ_self _⟩, by simp, by unfold maxLen; omega, kP, fun i x hx => by
        rcases (by have := (List.getElem?_eq_some_iff.1 hx).1; simp at this; omega : i = 0 ∨ i = 1) with rfl | rfl
        · simp at hx; subst hx; exact ⟨rfl, rfl⟩
        · simp at hx; subst hx; exact ⟨rfl, rfl⟩⟩
      have HPS6 := Lib.hid HPS0
      have hs6 : w5.heap.size + 1 ≤ ((w5.setCell ⟨T, 2, none⟩ (.slice (some ⟨w5.heap.size, 0, none⟩) 2 2)).alloc (.cells #[.string ⟨#[97]⟩, .int .i64 0, .string ⟨#[98]⟩, .int .i64 (1 + z)] 41)).heap.size := by simp
      have hTP : T < w5.heap.size := l3
      clear hbA hWs kP HPS0 c3 f3 l3 k3
      generalize ((w5.setCell ⟨T, 2, none⟩ (.slice (some ⟨w5.heap.size, 0, none⟩) 2 2)).alloc (.cells #[.string ⟨#[97]⟩, .int .i64 0, .string ⟨#[98]⟩, .int .i64 (1 + z)] 41)) = w6 at *
      obtain ⟨P, hP⟩ : ∃ P, w5.heap.size = P := ⟨_, rfl⟩
      (try rw [hP])
      rw [hP] at k36 HPS6 hs6 hTP hs5
      clear hP
      refine (HN.out _ _ HD6.out (by omega)).mono ?_
      rintro e w7 ⟨y, rfl, hy0, hy1, hD7, ho7⟩
      have hW7 := ho7.within
      have HD7 := Lib.hid hD7
      have k37 := hW7.blk k36 (by omega)
      have HZ7 := Lib.hid (hW7.blk HZ6.out (by omega))
      have HBL7 := Lib.hid (HBL6.out.past hW7 (.inl (by omega)))
      have HPS7 := Lib.hid (HPS6.out.past hW7 (.inr (by omega)))
      have HW7 := Lib.hid (HW6.out.on hW7)
      have hs7 := hW7.size
      have HSM : Hid (Small ⟨N, ds, [⟨⟨#[97]⟩, 0⟩, ⟨⟨#[98]⟩, 1 + z⟩]⟩) := Lib.hid ⟨⟨by show -1 ≤ N; omega, by show N ≤ 25; omega⟩, by show ds.length ≤ 100; omega, fun d hd => by have := HPN.out d hd; omega, by simp, by
        intro e he
        simp at he
        rcases he with rfl | rfl
        · exact ⟨by show (⟨#[97]⟩ : ByteArray).size ≤ _; decide, by show Fits 0; exact ⟨by omega, by omega⟩⟩
        · exact ⟨by show (⟨#[98]⟩ : ByteArray).size ≤ _; decide, by show Fits (1 + z); exact ⟨by omega, by omega⟩⟩⟩
      clear hD7 ho7 hW7 k36 HZ6 HBL6 HPS6 HD6 HW6 HL5
      have c7 := k37.cell
      have l7 := k37.lt
      by_cases hy : y = 0
      · subst hy
        obtain ⟨b, rfl, hb1, hb2⟩ := HBL7.out.ad hdl
        obtain ⟨x, hx⟩ : ∃ x, ds[0]? = some x := ⟨ds[0]'hdl, List.getElem?_eq_getElem _⟩
        have hdi : (0 : Int) < (ds.length : Int) := by omega
        have HSM2x : ∀ u : Int, Hid (Small ⟨N, ds.set 0 ⟨x.kind, x.pins, u, 1⟩, [⟨⟨#[97]⟩, 0⟩, ⟨⟨#[98]⟩, 1 + z⟩]⟩) := fun u => Lib.hid ⟨HSM.out.1, by simp; omega, by
          intro e he
          rcases List.mem_or_eq_of_mem_set he with h | rfl
          · have := HPN.out e h; omega
          · have := HPN.out x (List.mem_of_getElem? hx); show 1 ≤ x.pins.length ∧ x.pins.length ≤ 100; omega, HSM.out.2.2.2⟩
        have HSM2X := Lib.hid HSM2x
        have HX := Lib.hid hx
        clear HSM2x hx
        go_upto_region 26 with fail
        go_region_law
          (go_simp; go_at_call 18; refine (HN.out _ _ (HD7.out.by (by ((repeat (first | (with_reducible exact Below.refl _ _) | (with_reducible refine below_drewN ?_ _) | (with_reducible refine Below.drew ?_) | (with_reducible refine below_al ?_ _) | (with_reducible refine below_on (by assumption) ?_) | ((with_reducible refine Below.setCell ?_ ?_ _); rotate_left; focus (first | omega | (simp; done) | (simp; omega))) | (with_reducible assumption))); done))) (by omega)).mono ?_; rintro e w8 ⟨zz, rfl, hq0, hq1, hD8, ho8⟩; have HD8 := Lib.hid hD8; have hW8 := ho8.within; have hs8 := hW8.size; have hs8' : w7.heap.size ≤ w8.heap.size := (by simp at hs8 <;> omega); have k38 := hW8.blk (Blk.by (w := w7) (by ((repeat (first | (with_reducible exact Below.refl _ _) | (with_reducible refine below_drewN ?_ _) | (with_reducible refine Below.drew ?_) | (with_reducible refine below_al ?_ _) | (with_reducible refine below_on (by assumption) ?_) | ((with_reducible refine Below.setCell ?_ ?_ _); rotate_left; focus (first | omega | (simp; done) | (simp; omega))) | (with_reducible assumption))); done)) k37) (by omega); have c38 := k38.cell; have l38 := k38.lt; have HZ8 := Lib.hid (hW8.blk (Blk.by (w := w7) (by ((repeat (first | (with_reducible exact Below.refl _ _) | (with_reducible refine below_drewN ?_ _) | (with_reducible refine Below.drew ?_) | (with_reducible refine below_al ?_ _) | (with_reducible refine below_on (by assumption) ?_) | ((with_reducible refine Below.setCell ?_ ?_ _); rotate_left; focus (first | omega | (simp; done) | (simp; omega))) | (with_reducible assumption))); done)) HZ7.out) (by omega)); have HBL8 := Lib.hid ((HBL7.out.by (w := w7) (by ((repeat (first | (with_reducible exact Below.refl _ _) | (with_reducible refine below_drewN ?_ _) | (with_reducible refine Below.drew ?_) | (with_reducible refine below_al ?_ _) | (with_reducible refine below_on (by assumption) ?_) | ((with_reducible refine Below.setCell ?_ ?_ _); rotate_left; focus (first | omega | (simp; done) | (simp; omega))) | (with_reducible assumption))); done))).only ho8 (by omega)); have HPS8 := Lib.hid ((HPS7.out.by (w := w7) (by ((repeat (first | (with_reducible exact Below.refl _ _) | (with_reducible refine below_drewN ?_ _) | (with_reducible refine Below.drew ?_) | (with_reducible refine below_al ?_ _) | (with_reducible refine below_on (by assumption) ?_) | ((with_reducible refine Below.setCell ?_ ?_ _); rotate_left; focus (first | omega | (simp; done) | (simp; omega))) | (with_reducible assumption))); done))).past hW8 (.inr (by omega))); (obtain ⟨sx, e1, e2, e3, e4, hSx⟩ := HBL8.out.at 0 x HX.out); (try simp only [Nat.zero_mul, Nat.zero_add] at e1 e2 e3 e4); have fr := HBL8.out.fr hdl; have lX := lt_of_cell e1; (obtain ⟨Z, rfl⟩ : ∃ Z : Nat, zz = Z := ⟨zz.toNat, by omega⟩); have hZi : (Z : Int) < 3 := (by omega); have hZj : (0 : Int) ≤ (Z : Int) := (by omega); (obtain ⟨u, hu⟩ : ∃ u : Int, (#[.int .i64 999999, .int .i64 1000000, .int .i64 500001] : Array Value)[Z]? = some (.int .i64 u) := (by rcases (by omega : Z = 0 ∨ Z = 1 ∨ Z = 2) with rfl | rfl | rfl <;> exact ⟨_, rfl⟩)); (try (refine with_fact (p := Blk w8 w7.heap.size #[.int .i64 999999, .int .i64 1000000, .int .i64 500001] 2) (hW8.blk ?_ (by omega)) ?_; (focus ((repeat (first | (with_reducible assumption) | (with_reducible refine Blk.drewN ?_ _) | (with_reducible refine Blk.drew ?_) | ((with_reducible refine Blk.new _ ?_); focus (first | omega | (simp; done) | (simp; omega))) | (with_reducible refine Blk.past ?_ _) | ((with_reducible refine Blk.apart ?_ _ _ _ ?_); rotate_left; focus (first | omega | (simp; done) | (simp; omega))) | (with_reducible refine Blk.by (by assumption) ?_))); done)); intro kL8; have hu' : w8.cell? ⟨w7.heap.size, Z, none⟩ = some (.int .i64 u) := (by rw [kL8.cell]; exact hu); have lu := kL8.lt)); have HW8 := Lib.hid (HW7.out.on (Within.onB g (g + 1) (by ((repeat (first | (with_reducible exact Below.refl _ _) | (with_reducible refine below_drewN ?_ _) | (with_reducible refine Below.drew ?_) | (with_reducible refine below_al ?_ _) | (with_reducible refine below_on (by assumption) ?_) | ((with_reducible refine Below.setCell ?_ ?_ _); rotate_left; focus (first | omega | (simp; done) | (simp; omega))) | (with_reducible assumption))); done)) hW8)); clear hW8 ho8 hD8; dsimp only at lX ⊢)
        all_goals
          have HOD : Hid (OwnDs ((w8.setCell ⟨b, 2, none⟩ (.int .i64 u)).setCell ⟨b, 3, none⟩ (.int .i64 1)) (T + 1) hi (.slice (some ⟨b, 0, none⟩) ds.length cv) (ds.set 0 ⟨x.kind, x.pins, u, 1⟩)) := Lib.hid (by
            have q1 := HBL8.out.own.setNum 0 x HX.out 2 u ⟨x.kind, x.pins, u, x.len⟩ (by simp)
            have q2 := q1.setNum 0 ⟨x.kind, x.pins, u, x.len⟩ (by rw [List.getElem?_set]; simp [hdl]) 3 1 ⟨x.kind, x.pins, u, 1⟩ (by simp)
            simpa using q2)
          have HSM2 := HSM2X.out u
          go_upto_region 28 with fail
          first
            | (
               with_reducible refine atWorld ((w8.setCell ⟨b, 2, none⟩ (.int .i64 u)).setCell ⟨b, 3, none⟩ (.int .i64 1)) ?_
               have kE : Blk ((w8.setCell ⟨b, 2, none⟩ (.int .i64 u)).setCell ⟨b, 3, none⟩ (.int .i64 1)) T #[.int .i64 N, (.slice (some ⟨b, 0, none⟩) ds.length cv), (.slice (some ⟨P, 0, none⟩) 2 2)] 27 := (k38.apart b _ _ (by omega)).apart b _ _ (by omega)
               have HZE : Hid (Blk ((w8.setCell ⟨b, 2, none⟩ (.int .i64 u)).setCell ⟨b, 3, none⟩ (.int .i64 1)) w.heap.size #[.int .i64 0, .slice none 0 0, .slice none 0 0] 27) := Lib.hid ((HZ8.out.apart b _ _ (by omega)).apart b _ _ (by omega))
               have HDE : Hid (Src1 W0 g sv n ((w8.setCell ⟨b, 2, none⟩ (.int .i64 u)).setCell ⟨b, 3, none⟩ (.int .i64 1))) := Lib.hid ((HD8.out.apart (b := b) (by omega) (by omega)).apart (b := b) (by omega) (by omega))
               have HWE : Hid (Within g (g + 1) w ((w8.setCell ⟨b, 2, none⟩ (.int .i64 u)).setCell ⟨b, 3, none⟩ (.int .i64 1))) := Lib.hid ((HW8.out.new b _ _ (by omega)).new b _ _ (by omega))
               have HDO : Hid (∃ lo hi, w.heap.size < lo ∧ OwnDs ((w8.setCell ⟨b, 2, none⟩ (.int .i64 u)).setCell ⟨b, 3, none⟩ (.int .i64 1)) lo hi (.slice (some ⟨b, 0, none⟩) ds.length cv) (ds.set 0 ⟨x.kind, x.pins, u, 1⟩)) := Lib.hid ⟨T + 1, hi, by omega, HOD.out⟩
               have HPO2 : Hid (∃ lo hi, w.heap.size < lo ∧ OwnPs ((w8.setCell ⟨b, 2, none⟩ (.int .i64 u)).setCell ⟨b, 3, none⟩ (.int .i64 1)) lo hi (.slice (some ⟨P, 0, none⟩) 2 2) [⟨⟨#[97]⟩, 0⟩, ⟨⟨#[98]⟩, 1 + z⟩]) := Lib.hid ⟨P, P + 1, by omega, (HPS8.out.past (Within.off _) (.inr (by omega))).past (Within.off _) (.inr (by omega))⟩
               clear k38 c38 l38 e1 e2 e3 e4 hSx fr
               generalize ((w8.setCell ⟨b, 2, none⟩ (.int .i64 u)).setCell ⟨b, 3, none⟩ (.int .i64 1)) = wE at *
               have cT := kE.cell
               have lT := kE.lt
               have kZE := HZE.out
               have cZ := kZE.cell
               have fZ := kZE.free
               have lZ' := kZE.lt
               go_wp2
               refine bodyPost_ret (v := .agg #[.int .i64 N, (.slice (some ⟨b, 0, none⟩) ds.length cv), (.slice (some ⟨P, 0, none⟩) 2 2)]) (by simp [results, Try.results49, go_sem, *]) rfl ?_
               exact ⟨_, ⟨N, (ds.set 0 ⟨x.kind, x.pins, u, 1⟩), [⟨⟨#[97]⟩, 0⟩, ⟨⟨#[98]⟩, 1 + z⟩]⟩, rfl, Lib.hid (nlv_set3 _ _ _ HDO.out HPO2.out), HSM2, Lib.hid (((HDE.out.apart (by omega) (by omega)).apart (by omega) (by omega)).apart (by omega) (by omega)), Lib.hid (((HWE.out.new _ _ _ (by omega)).new _ _ _ (by omega)).new _ _ _ (by omega))⟩
              )
            | (
               with_reducible refine atWorld (((w8.setCell ⟨b, 2, none⟩ (.int .i64 u)).setCell ⟨b, 3, none⟩ (.int .i64 1)).alloc (.cells #[.int .i64 999999, .int .i64 1000000, .int .i64 500001] 2)) ?_
               have kE : Blk (((w8.setCell ⟨b, 2, none⟩ (.int .i64 u)).setCell ⟨b, 3, none⟩ (.int .i64 1)).alloc (.cells #[.int .i64 999999, .int .i64 1000000, .int .i64 500001] 2)) T #[.int .i64 N, (.slice (some ⟨b, 0, none⟩) ds.length cv), (.slice (some ⟨P, 0, none⟩) 2 2)] 27 := ((k38.apart b _ _ (by omega)).apart b _ _ (by omega)).past _
               have HZE : Hid (Blk (((w8.setCell ⟨b, 2, none⟩ (.int .i64 u)).setCell ⟨b, 3, none⟩ (.int .i64 1)).alloc (.cells #[.int .i64 999999, .int .i64 1000000, .int .i64 500001] 2)) w.heap.size #[.int .i64 0, .slice none 0 0, .slice none 0 0] 27) := Lib.hid (((HZ8.out.apart b _ _ (by omega)).apart b _ _ (by omega)).past _)
               have HDE : Hid (Src1 W0 g sv n (((w8.setCell ⟨b, 2, none⟩ (.int .i64 u)).setCell ⟨b, 3, none⟩ (.int .i64 1)).alloc (.cells #[.int .i64 999999, .int .i64 1000000, .int .i64 500001] 2))) := Lib.hid (((HD8.out.apart (b := b) (by omega) (by omega)).apart (b := b) (by omega) (by omega)).by ((Below.refl _ _).alloc (Nat.le_refl _) _))
               have HWE : Hid (Within g (g + 1) w (((w8.setCell ⟨b, 2, none⟩ (.int .i64 u)).setCell ⟨b, 3, none⟩ (.int .i64 1)).alloc (.cells #[.int .i64 999999, .int .i64 1000000, .int .i64 500001] 2))) := Lib.hid (((HW8.out.new b _ _ (by omega)).new b _ _ (by omega)).alloc _)
               have HDO : Hid (∃ lo hi, w.heap.size < lo ∧ OwnDs (((w8.setCell ⟨b, 2, none⟩ (.int .i64 u)).setCell ⟨b, 3, none⟩ (.int .i64 1)).alloc (.cells #[.int .i64 999999, .int .i64 1000000, .int .i64 500001] 2)) lo hi (.slice (some ⟨b, 0, none⟩) ds.length cv) (ds.set 0 ⟨x.kind, x.pins, u, 1⟩)) := Lib.hid ⟨T + 1, hi, by omega, OwnDs.by ((Below.refl _ _).alloc (Nat.le_refl _) _) HOD.out⟩
               have HPO2 : Hid (∃ lo hi, w.heap.size < lo ∧ OwnPs (((w8.setCell ⟨b, 2, none⟩ (.int .i64 u)).setCell ⟨b, 3, none⟩ (.int .i64 1)).alloc (.cells #[.int .i64 999999, .int .i64 1000000, .int .i64 500001] 2)) lo hi (.slice (some ⟨P, 0, none⟩) 2 2) [⟨⟨#[97]⟩, 0⟩, ⟨⟨#[98]⟩, 1 + z⟩]) := Lib.hid ⟨P, P + 1, by omega, OwnPs.by ((Below.refl _ _).alloc (Nat.le_refl _) _) ((HPS8.out.past (Within.off _) (.inr (by omega))).past (Within.off _) (.inr (by omega)))⟩
               clear k38 c38 l38 e1 e2 e3 e4 hSx fr
               generalize (((w8.setCell ⟨b, 2, none⟩ (.int .i64 u)).setCell ⟨b, 3, none⟩ (.int .i64 1)).alloc (.cells #[.int .i64 999999, .int .i64 1000000, .int .i64 500001] 2)) = wE at *
               have cT := kE.cell
               have lT := kE.lt
               have kZE := HZE.out
               have cZ := kZE.cell
               have fZ := kZE.free
               have lZ' := kZE.lt
               go_wp2
               refine bodyPost_ret (v := .agg #[.int .i64 N, (.slice (some ⟨b, 0, none⟩) ds.length cv), (.slice (some ⟨P, 0, none⟩) 2 2)]) (by simp [results, Try.results49, go_sem, *]) rfl ?_
               exact ⟨_, ⟨N, (ds.set 0 ⟨x.kind, x.pins, u, 1⟩), [⟨⟨#[97]⟩, 0⟩, ⟨⟨#[98]⟩, 1 + z⟩]⟩, rfl, Lib.hid (nlv_set3 _ _ _ HDO.out HPO2.out), HSM2, Lib.hid (((HDE.out.apart (by omega) (by omega)).apart (by omega) (by omega)).apart (by omega) (by omega)), Lib.hid (((HWE.out.new _ _ _ (by omega)).new _ _ _ (by omega)).new _ _ _ (by omega))⟩
              )
      · have HDO : Hid (∃ lo hi, w.heap.size < lo ∧ OwnDs w7 lo hi (.slice av ds.length cv) ds) := Lib.hid ⟨T + 1, hi, by omega, HBL7.out.own⟩
        have HPO2 : Hid (∃ lo hi, w.heap.size < lo ∧ OwnPs w7 lo hi (.slice (some ⟨P, 0, none⟩) 2 2) [⟨⟨#[97]⟩, 0⟩, ⟨⟨#[98]⟩, 1 + z⟩]) := Lib.hid ⟨P, P + 1, by omega, HPS7.out⟩
        have kE := k37
        have HZE := HZ7
        have HDE := HD7
        have HWE := HW7
        have cT := kE.cell
        have lT := kE.lt
        have kZE := HZE.out
        have cZ := kZE.cell
        have fZ := kZE.free
        have lZ' := kZE.lt
        go_wp2
        refine bodyPost_ret (v := .agg #[.int .i64 N, .slice av ds.length cv, (.slice (some ⟨P, 0, none⟩) 2 2)]) (by simp [results, Try.results49, go_sem, *]) rfl ?_
        exact ⟨_, ⟨N, ds, [⟨⟨#[97]⟩, 0⟩, ⟨⟨#[98]⟩, 1 + z⟩]⟩, rfl, Lib.hid (nlv_set3 _ _ _ HDO.out HPO2.out), HSM, Lib.hid (((HDE.out.apart (by omega) (by omega)).apart (by omega) (by omega)).apart (by omega) (by omega)), Lib.hid (((HWE.out.new _ _ _ (by omega)).new _ _ _ (by omega)).new _ _ _ (by omega))⟩
end Go.Proofs.Ytdljbmfmmlcmmaa

/- The draw of MergePair's arguments: some small netlist and two numbers. -/
namespace Go.Proofs.Ytdljbmfmmlcmmaa
open Go.RowKit
set_option linter.unusedVariables false
set_option linter.unusedSimpArgs false

theorem NlO.s1 {m : Nat} {w : World} {s : Value} {ds : List Dv} (h : ∃ lo hi, m ≤ lo ∧ OwnDs w lo hi s ds) : ∃ a c, s = .slice a ds.length c := by
  obtain ⟨l, h, r, o⟩ := h
  exact o.sl.sized
theorem NlO.s2 {m : Nat} {w : World} {s : Value} {ps : List Pt} (h : ∃ lo hi, m ≤ lo ∧ OwnPs w lo hi s ps) : ∃ a c, s = .slice a ps.length c := by
  obtain ⟨l, h, r, o⟩ := h
  exact o.sl.sized

set_option maxRecDepth 100000 in
set_option maxHeartbeats 2000000 in
theorem l28DrawNetlist_any (W0 : World) (g : Nat) (sv : Value) (n : Nat) (w : World) (hD : Src1 W0 g sv n w) :
    Calls Try.prog 30 #[.pointer (some ⟨g, 0, none⟩)] w fun e w' => ∃ (v : Value) (x : Nl), e = .returned v ∧ Hid (NlO w.heap.size w' v x) ∧ Hid (Small x) ∧ Hid (Src1 W0 g sv n w') ∧ Hid (Within g (g + 1) w w') := by
  have HN := Lib.hid (fun q w h hq => l01Next_any W0 g sv n q w h hq)
  have HA := Lib.hid (fun w h => l27DrawNetlist_any W0 g sv n w h)
  have HL := Lib.hid (fun w h => l28DrawLadder_any W0 g sv n w h)
  have hgl := hD.lt
  have hW0 : W0.heap.size ≤ g := hD.1
  have HD := Lib.hid hD
  clear hD
  go_enter Try.func30, Try.ntmps30
  go_wp2_with fail
  refine (HN.out _ _ (HD.out.by (by ((repeat (first | (with_reducible exact Below.refl _ _) | (with_reducible refine below_drewN ?_ _) | (with_reducible refine Below.drew ?_) | (with_reducible refine below_al ?_ _) | (with_reducible refine below_on (by assumption) ?_) | ((with_reducible refine Below.setCell ?_ ?_ _); rotate_left; focus (first | omega | (simp; done) | (simp; omega))) | (with_reducible assumption))); done))) (by omega)).mono ?_
  rintro e w1 ⟨y, rfl, hy0, hy1, hD1, ho1⟩
  have kZ0 : Blk (w.alloc (.cells #[.int .i64 0, .slice none 0 0, .slice none 0 0] 27)) w.heap.size #[.int .i64 0, .slice none 0 0, .slice none 0 0] 27 := Blk.new _ rfl
  have kZ := ho1.within.blk kZ0 (by omega)
  have HW1 := Lib.hid (((Within.refl g (g + 1) w).alloc (.cells #[.int .i64 0, .slice none 0 0, .slice none 0 0] 27)).on ho1.within)
  have HD1 := Lib.hid hD1
  have lZ := kZ.lt
  clear kZ0 hD1 ho1
  by_cases hy : y = 0
  · subst hy
    go_wp2_with (go_at_call 16; refine (HA.out _ HD1.out).mono ?_; rintro e w2 ⟨v, x, rfl, HO, HS, HD2, HW2⟩; (obtain ⟨s1, s2, rfl, r1, r2⟩ := HO.out); have kZ2 := HW2.out.blk kZ (by omega); have cZ := kZ2.cell; have fZ := kZ2.free; have lZ2 := kZ2.lt; (obtain ⟨a1, c1, rfl⟩ := NlO.s1 r1); (obtain ⟨a2, c2, rfl⟩ := NlO.s2 r2))
    refine bodyPost_ret (v := .agg #[.int .i64 x.nets, .slice a1 x.ds.length c1, .slice a2 x.ps.length c2]) (by simp [results, Try.results30, go_sem, *]) rfl ?_
    exact ⟨_, x, rfl, Lib.hid (((((HO.out.low (show w.heap.size + 1 ≤ w1.heap.size by omega)).past (Within.off _) (by omega)).past (Within.off _) (by omega)).past (Within.off _) (by omega)).low (by omega)), HS, Lib.hid (((HD2.out.apart (by omega) (by omega)).apart (by omega) (by omega)).apart (by omega) (by omega)), Lib.hid ((((HW1.out.on HW2.out).new _ _ _ (by omega)).new _ _ _ (by omega)).new _ _ _ (by omega))⟩
  · go_wp2_with (go_at_call 49; refine (HL.out _ HD1.out).mono ?_; rintro e w2 ⟨v, x, rfl, HO, HS, HD2, HW2⟩; (obtain ⟨s1, s2, rfl, r1, r2⟩ := HO.out); have kZ2 := HW2.out.blk kZ (by omega); have cZ := kZ2.cell; have fZ := kZ2.free; have lZ2 := kZ2.lt; (obtain ⟨a1, c1, rfl⟩ := NlO.s1 r1); (obtain ⟨a2, c2, rfl⟩ := NlO.s2 r2))
    refine bodyPost_ret (v := .agg #[.int .i64 x.nets, .slice a1 x.ds.length c1, .slice a2 x.ps.length c2]) (by simp [results, Try.results30, go_sem, *]) rfl ?_
    exact ⟨_, x, rfl, Lib.hid (((((HO.out.low (show w.heap.size + 1 ≤ w1.heap.size by omega)).past (Within.off _) (by omega)).past (Within.off _) (by omega)).past (Within.off _) (by omega)).low (by omega)), HS, Lib.hid (((HD2.out.apart (by omega) (by omega)).apart (by omega) (by omega)).apart (by omega) (by omega)), Lib.hid ((((HW1.out.on HW2.out).new _ _ _ (by omega)).new _ _ _ (by omega)).new _ _ _ (by omega))⟩

/-- What the draw holds while the numbers are drawn. -/
def Dms (W0 : World) (g : Nat) (sv : Value) (n : Nat) (w : World) (T : Nat) (v : Value) (cs : Array Value) (x : Nl) (wx : World) : Prop :=
  Blk wx T cs 27 ∧ Blk wx w.heap.size #[.int .i64 0, .slice none 0 0, .slice none 0 0] 27 ∧ NlO (g + 1) wx v x ∧ Src1 W0 g sv n wx ∧ Below w.heap.size w wx
section
variable {W0 : World} {g : Nat} {sv : Value} {n : Nat} {w : World} {T : Nat} {v : Value} {cs : Array Value} {x : Nl} {wx wy : World}
theorem Dms.by (hb : Below wx.heap.size wx wy) (h : Dms W0 g sv n w T v cs x wx) : Dms W0 g sv n w T v cs x wy :=
  ⟨Blk.by hb h.1, Blk.by hb h.2.1, h.2.2.1.by hb, h.2.2.2.1.by hb, below_on hb h.2.2.2.2⟩
theorem Dms.only (h : Dms W0 g sv n w T v cs x wx) (ho : Only g wx wy) (hD : Src1 W0 g sv n wy) (h1 : w.heap.size < g) (h2 : g < T) : Dms W0 g sv n w T v cs x wy := by
  exact ⟨ho.within.blk h.1 (by omega), ho.within.blk h.2.1 (by omega), h.2.2.1.past ho.within (by omega), hD, ho.within.below h.2.2.2.2 (by omega)⟩
end

end Go.Proofs.Ytdljbmfmmlcmmaa
