/- Contracts and plain laws, part 18, for the statement's proof. -/
import Derived.Test.YtifbffianbgeaaaGreatPkCmnLaw17
import Derived.Deep.DeepCutAuto
import Derived.Deep.RegionHeld3
import Derived.Test.YtifbffianbgeaaaGreatRows
import Derived.WalkKit
import Derived.ProofKit
import Derived.OpenShut
namespace Go.Proofs.YtifbffianbgeaaaGreat
open Go.RowKit
set_option linter.unusedVariables false
set_option linter.unusedSimpArgs false
theorem OwnPr.ma {w : World} {lo hi : Nat} {v : Value} {x : List Int × List Int} (h : OwnPr w lo hi v x) : MaV w v x := by
  obtain ⟨s1, s2, l1, h1, l2, h2, e, a, b, c⟩ := h; exact ⟨s1, s2, e, a.sl, b.sl⟩
set_option maxRecDepth 100000 in
set_option maxHeartbeats 2000000 in
theorem markMatching_any (lo hi : Nat) (v : Value) (x : List Int × List Int) (k0 : Nat) (w : World) (h : OwnPr w lo hi v x) (hlw : hi ≤ w.heap.size) (hn : x.1.length ≤ 1048576 ∧ x.2.length ≤ 1048576) (hk : 0 < k0) (hk' : k0 + prsum x ≤ 1000000000) :
    Calls Tryz.prog 17 #[v, .int .i64 (k0 : Int)] w fun e w' => e = .returned (.int .i64 ((k0 + prsum x : Nat) : Int)) ∧ OwnPr w' lo hi v (markPr k0 x) ∧ Within lo hi w w' := by
  obtain ⟨s1, s2, l1, h1, l2, h2, rfl, hD, hP, q1, q2, q3⟩ := h
  obtain ⟨xs, ys⟩ := x
  unfold prsum markPr at *
  dsimp only at *
  obtain ⟨hn1, hn2⟩ := hn
  have HM1 := Lib.hid (fun w h => markInts_any l1 h1 s1 xs k0 w h hn1 hk (by omega))
  have HM2 := Lib.hid (fun w h => markInts_any l2 h2 s2 ys (k0 + xs.length) w h hn2 (by omega) (by omega))
  have HD := Lib.hid hD
  have HP := Lib.hid hP
  have HE := Lib.hid (show k0 + (xs.length + ys.length) = k0 + xs.length + ys.length by omega)
  obtain ⟨a1, c1, rfl⟩ := hD.sl.len
  obtain ⟨a2, c2, rfl⟩ := hP.sl.len
  obtain ⟨T, hT⟩ : ∃ T : Nat, k0 + xs.length + ys.length = T := ⟨_, rfl⟩
  have hT' : k0 + (xs.length + ys.length) = T := by omega
  rw [hT] at HM2
  rw [hT']
  obtain ⟨m, hm⟩ : ∃ m : Nat, k0 + xs.length = m := ⟨_, rfl⟩
  rw [hm] at HM1 HM2 ⊢
  clear hD hP hT hT' hm HE
  go_enter Tryz.func17, Tryz.ntmps17
  go_wp2_with fail
  refine (HM1.out _ (OwnR.by blwT HD.out)).mono ?_
  rintro e w1 ⟨rfl, hD1, hw1⟩
  have k0_ : Blk w1 w.heap.size #[.slice a1 xs.length c1, .slice a2 ys.length c2] 29 := hw1.blk (Blk.new _ rfl) (by omega)
  have hWt : Within lo hi w w1 := ((Within.refl lo hi w).alloc _).on (hw1.sub q1.1 q1.2)
  have hP1 := OwnR.past hw1 (OwnR.by ((Below.refl _ w).alloc (Nat.le_refl _) (.cells #[.slice a1 xs.length c1, .slice a2 ys.length c2] 29)) HP.out) (by omega)
  have c0 := k0_.cell
  have hsz := hWt.size
  have HD1 := Lib.hid hD1
  have HP1 := Lib.hid hP1
  clear hD1 hP1 hw1
  go_wp2_with fail
  refine (HM2.out _ HP1.out).mono ?_
  rintro e w2 ⟨rfl, hP2, hw2⟩
  have hD2 := OwnR.past hw2 HD1.out (by omega)
  go_wp2
  go_ret
  exact ⟨rfl, ⟨_, _, l1, h1, l2, h2, by rfl, hD2, hP2, q1, q2, q3⟩, hWt.on (hw2.sub q2.1 q2.2)⟩
set_option maxRecDepth 100000 in
set_option maxHeartbeats 2000000 in
theorem heldMatching_any (v : Value) (x : List Int × List Int) (k0 : Nat) (w : World) (h : MaV w v (markPr k0 x)) (hn : x.1.length ≤ 1048576 ∧ x.2.length ≤ 1048576) (hk : 0 < k0) (hk' : k0 + prsum x ≤ 1000000000) :
    Calls Tryz.prog 18 #[v, .int .i64 (k0 : Int)] w fun e w' => e = .returned (.int .i64 ((k0 + prsum x : Nat) : Int)) ∧ Below w.heap.size w w' := by
  obtain ⟨s1, s2, rfl, hD, hP⟩ := h
  obtain ⟨xs, ys⟩ := x
  unfold prsum at *
  unfold markPr at *
  dsimp only at *
  obtain ⟨hn1, hn2⟩ := hn
  have HM1 := Lib.hid (fun w h => heldInts_any s1 xs k0 w h hn1 hk (by omega))
  have HM2 := Lib.hid (fun w h => heldInts_any s2 ys (k0 + xs.length) w h hn2 (by omega) (by omega))
  have HD := Lib.hid hD
  have HP := Lib.hid hP
  obtain ⟨a1, c1, rfl⟩ := hD.len
  obtain ⟨a2, c2, rfl⟩ := hP.len
  rw [length_marks] at HD HM1
  rw [length_marks] at HP HM2
  rw [length_marks, length_marks]
  obtain ⟨T, hT⟩ : ∃ T : Nat, k0 + xs.length + ys.length = T := ⟨_, rfl⟩
  have hT' : k0 + (xs.length + ys.length) = T := by omega
  rw [hT] at HM2
  rw [hT']
  obtain ⟨m, hm⟩ : ∃ m : Nat, k0 + xs.length = m := ⟨_, rfl⟩
  rw [hm] at HM1 HM2 HP
  have hm0 : decide ((m : Int) < 0) = false := decide_eq_false (by omega)
  have hT0 : decide ((T : Int) < 0) = false := decide_eq_false (by omega)
  clear hD hP hT hT' hm
  go_enter Tryz.func18, Tryz.ntmps18
  go_wp2_with fail
  refine (HM1.out _ (HD.out.by blwT)).mono ?_
  rintro e w1 ⟨rfl, hb1⟩
  have k0_ : Blk w1 w.heap.size #[.slice a1 xs.length c1, .slice a2 ys.length c2] 29 := blkT
  have c0 := k0_.cell
  have hW : Below w.heap.size w w1 := blwT
  clear hb1
  go_wp2_with fail
  refine (HM2.out _ (HP.out.by hW)).mono ?_
  rintro e w2 ⟨rfl, hb2⟩
  go_wp2
  go_ret
  exact ⟨rfl, blwT⟩
end Go.Proofs.YtifbffianbgeaaaGreat
namespace Go.Proofs.YtifbffianbgeaaaGreat.fnExactCompareNetlists
open Go.RowKit Go.Proofs.YtifbffianbgeaaaGreat
set_option linter.unusedVariables false
set_option linter.unusedSimpArgs false
set_option maxRecDepth 100000 in
set_option maxHeartbeats 16000000 in
theorem walk (v0 : Value) (v1 : Value) (w : World) (x : Nl) (w0 : IsNlV w v0 x) (z : Nl) (w1 : IsNlV w v1 z) :
    Calls Tryz.prog 3 #[v0, v1] w fun e w' => e = .returned (.bool true) ∧ Below w.heap.size w w' := by
  obtain ⟨hV0, h0f, h0d, h0p⟩ := w0
  obtain ⟨hV1, h1f, h1d, h1p⟩ := w1
  have HSZ0 := fun w h => szNl_any v0 x 1048576 w h h0p (by omega) (by omega)
  by_cases hbig : (1048576 : Int) < nlSize x.ds x.ps
  · simp only [if_pos hbig] at HSZ0
    have HZ0 := Lib.hid HSZ0
    clear HSZ0 hbig
    have HV0 := Lib.hid hV0
    have HV1 := Lib.hid hV1
    obtain ⟨a0, c0, a0d, c0d, rfl⟩ := hV0.sized
    obtain ⟨a1, c1, a1d, c1d, rfl⟩ := hV1.sized
    clear hV0 hV1
    go_enter Tryz.func3, Tryz.ntmps3
    go_wp2_with fail
    refine (HZ0.out _ (HV0.out.by blwT)).mono ?_
    rintro e s0 ⟨rfl, hb⟩
    go_wp2
    go_ret
    exact ⟨rfl, blwT⟩
  simp only [if_neg hbig] at HSZ0
  obtain ⟨n0a, n0b, n0c⟩ := nlSize_bounds (x := x) (by omega)
  have hbg0 : nlSize x.ds x.ps ≤ 1048576 := by omega
  have hxn0 : nsum x ≤ 4000000 := nsum_le hbg0
  have hsn0 : 0 ≤ nlSize x.ds x.ps := by exact nlSize_nonneg _
  obtain ⟨l0, hl0⟩ : ∃ l : Int, (1048576 : Int) - nlSize x.ds x.ps = l := ⟨_, rfl⟩
  have hl0a : 0 ≤ l0 := by omega
  have hl0b : l0 ≤ 1048576 := by omega
  rw [hl0] at HSZ0
  have HZ0 := Lib.hid HSZ0
  clear HSZ0 hbig hl0 hsn0
  have HSZ1 := fun w h => szNl_any v1 z l0 w h h1p (by omega) (by omega)
  by_cases hbig : (l0 : Int) < nlSize z.ds z.ps
  · simp only [if_pos hbig] at HSZ1
    have HZ1 := Lib.hid HSZ1
    clear HSZ1 hbig
    have HV0 := Lib.hid hV0
    have HV1 := Lib.hid hV1
    obtain ⟨a0, c0, a0d, c0d, rfl⟩ := hV0.sized
    obtain ⟨a1, c1, a1d, c1d, rfl⟩ := hV1.sized
    clear hV0 hV1
    go_enter Tryz.func3, Tryz.ntmps3
    go_wp2_with fail
    refine (HZ0.out _ (HV0.out.by blwT)).mono ?_
    rintro e s0 ⟨rfl, hb⟩
    have kA0 : Blk s0 (w.heap.size) #[.int .i64 x.nets, .slice a0 x.ds.length c0, .slice a0d x.ps.length c0d] 25 := blkT
    have kA1 : Blk s0 (w.heap.size + 1) #[.int .i64 z.nets, .slice a1 z.ds.length c1, .slice a1d z.ps.length c1d] 25 := blkT
    have hW : Below w.heap.size w s0 := blwT
    clear hb 
    have cA0 := kA0.cell
    have cA1 := kA1.cell
    go_wp2_with fail
    refine (HZ1.out _ (HV1.out.by hW)).mono ?_
    rintro e s1 ⟨rfl, hb⟩
    go_wp2
    go_ret
    exact ⟨rfl, blwT⟩
  simp only [if_neg hbig] at HSZ1
  obtain ⟨n1a, n1b, n1c⟩ := nlSize_bounds (x := z) (by omega)
  have hbg1 : nlSize z.ds z.ps ≤ 1048576 := by omega
  have hxn1 : nsum z ≤ 4000000 := nsum_le hbg1
  have hsn1 : 0 ≤ nlSize z.ds z.ps := by exact nlSize_nonneg _
  obtain ⟨l1, hl1⟩ : ∃ l : Int, (l0 : Int) - nlSize z.ds z.ps = l := ⟨_, rfl⟩
  have hl1a : 0 ≤ l1 := by omega
  have hl1b : l1 ≤ 1048576 := by omega
  rw [hl1] at HSZ1
  have HZ1 := Lib.hid HSZ1
  clear HSZ1 hbig hl1 hsn1
  have HTO0 := Lib.hid (fun v w h => toNetlist_nl v x w h n0a n0b n0c)
  have HTOO0 := Lib.hid (fun v w h => toNetlist_own v x w h (by omega) (by first | exact n0b | exact n0c | (intro d hd; have := n0b d hd; omega)) (by omega))
  have HEQ0 := Lib.hid (fun v1 v2 w h1 h2 => eqNetlist_refl v1 v2 x w h1 h2)
  have HTO1 := Lib.hid (fun v w h => toNetlist_nl v z w h n1a n1b n1c)
  have HTOO1 := Lib.hid (fun v w h => toNetlist_own v z w h (by omega) (by first | exact n1b | exact n1c | (intro d hd; have := n1b d hd; omega)) (by omega))
  have HEQ1 := Lib.hid (fun v1 v2 w h1 h2 => eqNetlist_refl v1 v2 z w h1 h2)
  have HSP := Lib.hid (fun u0 u1 w h0 h1 => specCmpNl_any x z u0 u1 w h0 h1 h0p h0f h1p h1f)
  have HIM := Lib.hid (fun u0 u1 w h0 h1 => implCmpNl_any x z u0 u1 w h0 h1 h0p h0f h1p h1f)
  have HMX00 : ∀ lo hi v w, OwnNl w lo hi v x → hi ≤ w.heap.size → Calls Tryz.prog 16 #[v, .int .i64 1] w fun e w' => e = .returned (.int .i64 ((1 + nsum x : Nat) : Int)) ∧ OwnNl w' lo hi v (markNl 1 x) ∧ Within lo hi w w' := fun lo hi v w h hl => markNetlist_any lo hi v x 1 w h hl (by first | exact n0b | (intro d hd; have := n0b d hd; omega)) (by omega) (by omega)
  obtain ⟨mx0, hmx0⟩ : ∃ m : Nat, 1 + nsum x = m := ⟨_, rfl⟩
  have hmx0a : 0 < mx0 ∧ mx0 ≤ 4200001 := by omega
  rw [hmx0] at HMX00
  have HMX0 := Lib.hid HMX00
  clear HMX00 hmx0
  have HMX10 : ∀ lo hi v w, OwnNl w lo hi v z → hi ≤ w.heap.size → Calls Tryz.prog 16 #[v, .int .i64 (mx0 : Int)] w fun e w' => e = .returned (.int .i64 ((mx0 + nsum z : Nat) : Int)) ∧ OwnNl w' lo hi v (markNl mx0 z) ∧ Within lo hi w w' := fun lo hi v w h hl => markNetlist_any lo hi v z mx0 w h hl (by first | exact n1b | (intro d hd; have := n1b d hd; omega)) (by omega) (by omega)
  obtain ⟨mx1, hmx1⟩ : ∃ m : Nat, mx0 + nsum z = m := ⟨_, rfl⟩
  have hmx1a : 0 < mx1 ∧ mx1 ≤ 8400002 := by omega
  rw [hmx1] at HMX10
  have HMX1 := Lib.hid HMX10
  clear HMX10 hmx1
  have hmx0 : decide ((mx1 : Int) < 0) = false := decide_eq_false (by omega)
  have hyb := cmpR_bounds x z
  generalize cmpR x z = y at *
  generalize cmpC x z = p0 at *
  have hyn : prsum y ≤ 4000000 := by unfold prsum; omega
  have HEQY := Lib.hid (fun v1 v2 w h1 h2 => eqMatching_refl v1 v2 y w h1 h2)
  have HMY0 : ∀ lo hi v w, OwnPr w lo hi v y → hi ≤ w.heap.size → Calls Tryz.prog 17 #[v, .int .i64 1] w fun e w' => e = .returned (.int .i64 ((1 + prsum y : Nat) : Int)) ∧ OwnPr w' lo hi v (markPr 1 y) ∧ Within lo hi w w' := fun lo hi v w h hl => markMatching_any lo hi v y 1 w h hl hyb (by omega) (by omega)
  have HHY0 : ∀ v w, MaV w v (markPr 1 y) → Calls Tryz.prog 18 #[v, .int .i64 1] w fun e w' => e = .returned (.int .i64 ((1 + prsum y : Nat) : Int)) ∧ Below w.heap.size w w' := fun v w h => heldMatching_any v y 1 w h hyb (by omega) (by omega)
  obtain ⟨my, hmy⟩ : ∃ m : Nat, 1 + prsum y = m := ⟨_, rfl⟩
  rw [hmy] at HMY0 HHY0
  have hmy0 : decide ((my : Int) < 0) = false := decide_eq_false (by omega)
  have HMY := Lib.hid HMY0
  have HHY := Lib.hid HHY0
  have HV0 := Lib.hid hV0
  have HV1 := Lib.hid hV1
  obtain ⟨a0, c0, a0d, c0d, rfl⟩ := hV0.sized
  obtain ⟨a1, c1, a1d, c1d, rfl⟩ := hV1.sized
  clear HMY0 HHY0 hmy hyn hyb hV0 h0f h0d h0p n0a n0b n0c hV1 h1f h1d h1p n1a n1b n1c hxn0 hbg0 hxn1 hbg1
  go_enter Tryz.func3, Tryz.ntmps3
  go_wp2_with fail
  refine (HZ0.out _ (HV0.out.by blwT)).mono ?_
  rintro e s0 ⟨rfl, hb⟩
  have kA0 : Blk s0 (w.heap.size) #[.int .i64 x.nets, .slice a0 x.ds.length c0, .slice a0d x.ps.length c0d] 25 := blkT
  have kA1 : Blk s0 (w.heap.size + 1) #[.int .i64 z.nets, .slice a1 z.ds.length c1, .slice a1d z.ps.length c1d] 25 := blkT
  have hW : Below w.heap.size w s0 := blwT
  clear hb 
  have cA0 := kA0.cell
  have cA1 := kA1.cell
  go_wp2_with fail
  refine (HZ1.out _ (HV1.out.by hW)).mono ?_
  rintro e s1 ⟨rfl, hb⟩
  replace kA0 := Blk.by hb kA0
  replace kA1 := Blk.by hb kA1
  replace hW := below_on hb hW
  clear hb cA0 cA1
  have cA0 := kA0.cell
  have cA1 := kA1.cell
  clear cA0 cA1
  go_upto_region 8 with fail
  go_cut [6, 7] (fun s6 s7 wx => ∃ (Wp Wl Wh : Nat) (aW : Option Addr) (aWd : Option Addr) (cW : Nat) (cWd : Nat), s6 = .pointer (some ⟨Wp, 0, none⟩) ∧ s7 = .int .i64 p0 ∧ Blk wx Wp #[.slice aW y.1.length cW, .slice aWd y.2.length cWd] 29 ∧ Hid (OwnPr wx Wl Wh (.agg #[.slice aW y.1.length cW, .slice aWd y.2.length cWd]) y) ∧ (s1.heap.size ≤ Wl ∧ Wl ≤ Wh ∧ Wh ≤ wx.heap.size ∧ s1.heap.size ≤ Wp ∧ (Wp < Wl ∨ Wh ≤ Wp)) ∧ Blk wx (w.heap.size) #[.int .i64 x.nets, .slice a0 x.ds.length c0, .slice a0d x.ps.length c0d] 25 ∧ Blk wx (w.heap.size + 1) #[.int .i64 z.nets, .slice a1 z.ds.length c1, .slice a1d z.ps.length c1d] 25 ∧ Below w.heap.size w wx)
  case first =>
    have qA0 := kA0.cell
    have lA0 := kA0.lt
    have qA1 := kA1.cell
    have lA1 := kA1.lt
    go_region_held3 (fun w' => (Blk w' (w.heap.size) #[.int .i64 x.nets, .slice a0 x.ds.length c0, .slice a0d x.ps.length c0d] 25 ∧ ∀ o, w'.cell? ⟨w.heap.size, o, none⟩ = (#[.int .i64 x.nets, .slice a0 x.ds.length c0, .slice a0d x.ps.length c0d] : Array Value)[o]?) ∧ (Blk w' (w.heap.size + 1) #[.int .i64 z.nets, .slice a1 z.ds.length c1, .slice a1d z.ps.length c1d] 25 ∧ ∀ o, w'.cell? ⟨w.heap.size + 1, o, none⟩ = (#[.int .i64 z.nets, .slice a1 z.ds.length c1, .slice a1d z.ps.length c1d] : Array Value)[o]?) ∧ Below w.heap.size w w') (((try (obtain ⟨⟨hS0, _⟩, ⟨hS1, _⟩, hSB⟩ := hHeld)); refine ⟨Blk.both ?_, Blk.both ?_, ?_⟩ <;> first | ((repeat (first | (with_reducible assumption) | (with_reducible refine Blk.drewN ?_ _) | (with_reducible refine Blk.drew ?_) | ((with_reducible refine Blk.new _ ?_); focus (first | omega | (simp; done) | (simp; omega))) | (with_reducible refine Blk.past ?_ _) | ((with_reducible refine Blk.apart ?_ _ _ _ ?_); rotate_left; focus (first | omega | (simp; done) | (simp; omega))) | (with_reducible refine Blk.by (by assumption) ?_))); done) | ((repeat (first | (with_reducible exact Below.refl _ _) | (with_reducible refine below_drewN ?_ _) | (with_reducible refine Below.drew ?_) | (with_reducible refine below_al ?_ _) | (with_reducible refine below_on (by assumption) ?_) | ((with_reducible refine Below.setCell ?_ ?_ _); rotate_left; focus (first | omega | (simp; done) | (simp; omega))) | (with_reducible assumption))); done)))
      (first | (go_at_call_of 12 (Value.agg #[Value.int IntKind.i64 x.nets, Value.slice a0 x.ds.length c0, Value.slice a0d x.ps.length c0d]); refine (HTO0.out _ _ (HV0.out.by blwT)).mono ?_; rintro e t10 ⟨v10_, rfl, hN, hb10⟩; have HN10 := Lib.hid hN; obtain ⟨a10, c10, a10d, c10d, rfl⟩ := hN.sized; clear hN; have hz10 := hb10.size; (try simp only [World.size_alloc, size_drewN, World.size_drew] at hz10); (try (refine with_fact (p := Blk t10 (s1.heap.size) #[.slice none 0 0, .slice none 0 0] 29) (Blk.by hb10 ?_) ?_; (focus ((repeat (first | (with_reducible assumption) | (with_reducible refine Blk.drewN ?_ _) | (with_reducible refine Blk.drew ?_) | ((with_reducible refine Blk.new _ ?_); focus (first | omega | (simp; done) | (simp; omega))) | (with_reducible refine Blk.past ?_ _) | ((with_reducible refine Blk.apart ?_ _ _ _ ?_); rotate_left; focus (first | omega | (simp; done) | (simp; omega))) | (with_reducible refine Blk.by (by assumption) ?_))); done)); intro kzt10_0; have czt10_0 := kzt10_0.cell; have fzt10_0 := kzt10_0.free; have lzt10_0 := kzt10_0.lt))) | (go_at_call_of 12 (Value.agg #[Value.int IntKind.i64 z.nets, Value.slice a1 z.ds.length c1, Value.slice a1d z.ps.length c1d]); refine (HTO1.out _ _ (HV1.out.by blwT)).mono ?_; rintro e t11 ⟨v11_, rfl, hN, hb11⟩; have HN11 := Lib.hid hN; obtain ⟨a11, c11, a11d, c11d, rfl⟩ := hN.sized; clear hN; have hz11 := hb11.size; (try simp only [World.size_alloc, size_drewN, World.size_drew] at hz11); (try (refine with_fact (p := Blk t11 (s1.heap.size) #[.slice none 0 0, .slice none 0 0] 29) (Blk.by hb11 ?_) ?_; (focus ((repeat (first | (with_reducible assumption) | (with_reducible refine Blk.drewN ?_ _) | (with_reducible refine Blk.drew ?_) | ((with_reducible refine Blk.new _ ?_); focus (first | omega | (simp; done) | (simp; omega))) | (with_reducible refine Blk.past ?_ _) | ((with_reducible refine Blk.apart ?_ _ _ _ ?_); rotate_left; focus (first | omega | (simp; done) | (simp; omega))) | (with_reducible refine Blk.by (by assumption) ?_))); done)); intro kzt11_0; have czt11_0 := kzt11_0.cell; have fzt11_0 := kzt11_0.free; have lzt11_0 := kzt11_0.lt)); (try (refine with_fact (p := Blk t11 (t10.heap.size) #[.slice none 0 0, .slice none 0 0] 29) (Blk.by hb11 ?_) ?_; (focus ((repeat (first | (with_reducible assumption) | (with_reducible refine Blk.drewN ?_ _) | (with_reducible refine Blk.drew ?_) | ((with_reducible refine Blk.new _ ?_); focus (first | omega | (simp; done) | (simp; omega))) | (with_reducible refine Blk.past ?_ _) | ((with_reducible refine Blk.apart ?_ _ _ _ ?_); rotate_left; focus (first | omega | (simp; done) | (simp; omega))) | (with_reducible refine Blk.by (by assumption) ?_))); done)); intro kzt11_1; have czt11_1 := kzt11_1.cell; have fzt11_1 := kzt11_1.free; have lzt11_1 := kzt11_1.lt))) | (go_at_call 11; refine (HSP.out _ _ _ (HN10.out.by blwT) (HN11.out.by blwT)).mono ?_; rintro e t20 ⟨v, rfl, hO, hb20⟩; obtain ⟨Wl, hlW, hO⟩ : ∃ lo, (_ = lo) ∧ OwnPr t20 lo t20.heap.size v y := ⟨_, rfl, hO⟩; have OW := Lib.hid hO; obtain ⟨aW, cW, aWd, cWd, rfl⟩ := hO.ma.sized; clear hO; have hz20 := hb20.size; (try simp only [World.size_alloc, size_drewN, World.size_drew] at hz20 hlW); (try (refine with_fact (p := Blk t20 (s1.heap.size) #[.slice none 0 0, .slice none 0 0] 29) (Blk.by hb20 ?_) ?_; (focus ((repeat (first | (with_reducible assumption) | (with_reducible refine Blk.drewN ?_ _) | (with_reducible refine Blk.drew ?_) | ((with_reducible refine Blk.new _ ?_); focus (first | omega | (simp; done) | (simp; omega))) | (with_reducible refine Blk.past ?_ _) | ((with_reducible refine Blk.apart ?_ _ _ _ ?_); rotate_left; focus (first | omega | (simp; done) | (simp; omega))) | (with_reducible refine Blk.by (by assumption) ?_))); done)); intro kzt20_0; have czt20_0 := kzt20_0.cell; have fzt20_0 := kzt20_0.free; have lzt20_0 := kzt20_0.lt)); (try (refine with_fact (p := Blk t20 (t10.heap.size) #[.slice none 0 0, .slice none 0 0] 29) (Blk.by hb20 ?_) ?_; (focus ((repeat (first | (with_reducible assumption) | (with_reducible refine Blk.drewN ?_ _) | (with_reducible refine Blk.drew ?_) | ((with_reducible refine Blk.new _ ?_); focus (first | omega | (simp; done) | (simp; omega))) | (with_reducible refine Blk.past ?_ _) | ((with_reducible refine Blk.apart ?_ _ _ _ ?_); rotate_left; focus (first | omega | (simp; done) | (simp; omega))) | (with_reducible refine Blk.by (by assumption) ?_))); done)); intro kzt20_1; have czt20_1 := kzt20_1.cell; have fzt20_1 := kzt20_1.free; have lzt20_1 := kzt20_1.lt)); (try (refine with_fact (p := Blk t20 (t11.heap.size) #[.slice none 0 0, .slice none 0 0] 29) (Blk.by hb20 ?_) ?_; (focus ((repeat (first | (with_reducible assumption) | (with_reducible refine Blk.drewN ?_ _) | (with_reducible refine Blk.drew ?_) | ((with_reducible refine Blk.new _ ?_); focus (first | omega | (simp; done) | (simp; omega))) | (with_reducible refine Blk.past ?_ _) | ((with_reducible refine Blk.apart ?_ _ _ _ ?_); rotate_left; focus (first | omega | (simp; done) | (simp; omega))) | (with_reducible refine Blk.by (by assumption) ?_))); done)); intro kzt20_2; have czt20_2 := kzt20_2.cell; have fzt20_2 := kzt20_2.free; have lzt20_2 := kzt20_2.lt))))
    all_goals (go_wp2_with fail; go_meet)
    all_goals
      refine ⟨_, Wl, t20.heap.size, aW, aWd, cW, cWd, rfl, rfl, ?_, ?_, ?_, ?_, ?_, ?_⟩
      · (first | (with_reducible exact Blk.new _ rfl) | ((with_reducible refine Blk.set2 (a := .slice none 0 0) (b := .slice none 0 0) ?_); with_reducible assumption))
      · first | (with_reducible refine Lib.hid (OwnPr.by ((Below.refl _ t20).alloc (Nat.le_refl _) _) OW.out)) | ((with_reducible refine Lib.hid (OwnPr.past (Within.off _) (OwnPr.past (Within.off _) OW.out ?_) ?_)) <;> omega)
      · simp only [World.size_alloc, World.size_setCell]; omega
      · ((repeat (first | (with_reducible assumption) | (with_reducible refine Blk.drewN ?_ _) | (with_reducible refine Blk.drew ?_) | ((with_reducible refine Blk.new _ ?_); focus (first | omega | (simp; done) | (simp; omega))) | (with_reducible refine Blk.past ?_ _) | ((with_reducible refine Blk.apart ?_ _ _ _ ?_); rotate_left; focus (first | omega | (simp; done) | (simp; omega))) | (with_reducible refine Blk.by (by assumption) ?_))); done)
      · ((repeat (first | (with_reducible assumption) | (with_reducible refine Blk.drewN ?_ _) | (with_reducible refine Blk.drew ?_) | ((with_reducible refine Blk.new _ ?_); focus (first | omega | (simp; done) | (simp; omega))) | (with_reducible refine Blk.past ?_ _) | ((with_reducible refine Blk.apart ?_ _ _ _ ?_); rotate_left; focus (first | omega | (simp; done) | (simp; omega))) | (with_reducible refine Blk.by (by assumption) ?_))); done)
      · ((repeat (first | (with_reducible exact Below.refl _ _) | (with_reducible refine below_drewN ?_ _) | (with_reducible refine Below.drew ?_) | (with_reducible refine below_al ?_ _) | (with_reducible refine below_on (by assumption) ?_) | ((with_reducible refine Below.setCell ?_ ?_ _); rotate_left; focus (first | omega | (simp; done) | (simp; omega))) | (with_reducible assumption))); done)
  case rest =>
    obtain ⟨Wp, Wl, Wh, aW, aWd, cW, cWd, rfl, rfl, kW', OW', hbeW, kA0_, kA1_, hW_⟩ := hcut
    replace kA0 := kA0_
    clear kA0_
    replace kA1 := kA1_
    clear kA1_
    have hWzW := hW.size
    replace hW := hW_
    clear hW_
    have kW := kW'
    have OW := OW'
    clear kW' OW'
    obtain ⟨c10, hc10⟩ : ∃ x : World, x = wc := ⟨_, rfl⟩
    subst hc10
    have lzW_A0 := kA0.lt
    have lzW_A1 := kA1.lt
    have lzW_W := kW.lt
    have qA0 := kA0.cell
    have lA0 := kA0.lt
    have qA1 := kA1.cell
    have lA1 := kA1.lt
    have qW := kW.cell
    have lW := kW.lt
    go_wp2_with fail
    refine (HTOO0.out _ _ (HV0.out.by hW)).mono ?_
    rintro e t30 ⟨v, rfl, hO, hb⟩
    clear qA0 lA0 qA1 lA1 qW lW
    have hbdX0 := hb.size
    replace kA0 := Blk.by hb kA0
    replace kA1 := Blk.by hb kA1
    replace kW := Blk.by hb kW
    replace OW := Lib.hid (OW.out.by hb)
    replace hW := below_on hb hW
    clear hb
    try simp only [World.size_alloc, World.size_drew, size_drewN] at hbdX0 hO
    obtain ⟨X0l, X0h, hbeX0, hO⟩ : ∃ l h, (_ ≤ l ∧ l ≤ h ∧ h ≤ t30.heap.size) ∧ OwnNl t30 l h _ x := ⟨_, _, ⟨Nat.le_refl _, hbdX0, Nat.le_refl _⟩, hO⟩
    clear hbdX0
    have OX0 := Lib.hid hO
    obtain ⟨aX0, cX0, aX0d, cX0d, rfl⟩ := hO.nl.sized
    clear hO
    try generalize c10.heap.size = pp0 at *
    replace kA0 := kA0.past (.cells #[.int .i64 x.nets, .slice aX0 x.ds.length cX0, .slice aX0d x.ps.length cX0d] 35)
    replace kA1 := kA1.past (.cells #[.int .i64 x.nets, .slice aX0 x.ds.length cX0, .slice aX0d x.ps.length cX0d] 35)
    replace kW := kW.past (.cells #[.int .i64 x.nets, .slice aX0 x.ds.length cX0, .slice aX0d x.ps.length cX0d] 35)
    replace OW := Lib.hid (OW.out.by ((Below.refl _ t30).alloc (Nat.le_refl _) (.cells #[.int .i64 x.nets, .slice aX0 x.ds.length cX0, .slice aX0d x.ps.length cX0d] 35)))
    replace OX0 := Lib.hid (OX0.out.by ((Below.refl _ t30).alloc (Nat.le_refl _) (.cells #[.int .i64 x.nets, .slice aX0 x.ds.length cX0, .slice aX0d x.ps.length cX0d] 35)))
    have kX0 : Blk (t30.alloc (.cells #[.int .i64 x.nets, .slice aX0 x.ds.length cX0, .slice aX0d x.ps.length cX0d] 35)) t30.heap.size #[.int .i64 x.nets, .slice aX0 x.ds.length cX0, .slice aX0d x.ps.length cX0d] 35 := Blk.new _ rfl
    replace hW := below_al hW (.cells #[.int .i64 x.nets, .slice aX0 x.ds.length cX0, .slice aX0d x.ps.length cX0d] 35)
    have qA0 := kA0.cell
    have lA0 := kA0.lt
    have qA1 := kA1.cell
    have lA1 := kA1.lt
    have qW := kW.cell
    have lW := kW.lt
    have qX0 := kX0.cell
    have lX0 := kX0.lt
    go_wp2_with fail
    refine (HTOO1.out _ _ (HV1.out.by hW)).mono ?_
    rintro e t31 ⟨v, rfl, hO, hb⟩
    clear qA0 lA0 qA1 lA1 qW lW qX0 lX0
    have hbdX1 := hb.size
    replace kA0 := Blk.by hb kA0
    replace kA1 := Blk.by hb kA1
    replace kW := Blk.by hb kW
    replace kX0 := Blk.by hb kX0
    replace OW := Lib.hid (OW.out.by hb)
    replace OX0 := Lib.hid (OX0.out.by hb)
    replace hW := below_on hb hW
    clear hb
    try simp only [World.size_alloc, World.size_drew, size_drewN] at hbdX1 hO
    obtain ⟨X1l, X1h, hbeX1, hO⟩ : ∃ l h, (_ ≤ l ∧ l ≤ h ∧ h ≤ t31.heap.size) ∧ OwnNl t31 l h _ z := ⟨_, _, ⟨Nat.le_refl _, hbdX1, Nat.le_refl _⟩, hO⟩
    clear hbdX1
    have OX1 := Lib.hid hO
    obtain ⟨aX1, cX1, aX1d, cX1d, rfl⟩ := hO.nl.sized
    clear hO
    try generalize t30.heap.size = pp1 at *
    replace kA0 := kA0.past (.cells #[.int .i64 z.nets, .slice aX1 z.ds.length cX1, .slice aX1d z.ps.length cX1d] 35)
    replace kA1 := kA1.past (.cells #[.int .i64 z.nets, .slice aX1 z.ds.length cX1, .slice aX1d z.ps.length cX1d] 35)
    replace kW := kW.past (.cells #[.int .i64 z.nets, .slice aX1 z.ds.length cX1, .slice aX1d z.ps.length cX1d] 35)
    replace kX0 := kX0.past (.cells #[.int .i64 z.nets, .slice aX1 z.ds.length cX1, .slice aX1d z.ps.length cX1d] 35)
    replace OW := Lib.hid (OW.out.by ((Below.refl _ t31).alloc (Nat.le_refl _) (.cells #[.int .i64 z.nets, .slice aX1 z.ds.length cX1, .slice aX1d z.ps.length cX1d] 35)))
    replace OX0 := Lib.hid (OX0.out.by ((Below.refl _ t31).alloc (Nat.le_refl _) (.cells #[.int .i64 z.nets, .slice aX1 z.ds.length cX1, .slice aX1d z.ps.length cX1d] 35)))
    replace OX1 := Lib.hid (OX1.out.by ((Below.refl _ t31).alloc (Nat.le_refl _) (.cells #[.int .i64 z.nets, .slice aX1 z.ds.length cX1, .slice aX1d z.ps.length cX1d] 35)))
    have kX1 : Blk (t31.alloc (.cells #[.int .i64 z.nets, .slice aX1 z.ds.length cX1, .slice aX1d z.ps.length cX1d] 35)) t31.heap.size #[.int .i64 z.nets, .slice aX1 z.ds.length cX1, .slice aX1d z.ps.length cX1d] 35 := Blk.new _ rfl
    replace hW := below_al hW (.cells #[.int .i64 z.nets, .slice aX1 z.ds.length cX1, .slice aX1d z.ps.length cX1d] 35)
    have qA0 := kA0.cell
    have lA0 := kA0.lt
    have qA1 := kA1.cell
    have lA1 := kA1.lt
    have qW := kW.cell
    have lW := kW.lt
    have qX0 := kX0.cell
    have lX0 := kX0.lt
    have qX1 := kX1.cell
    have lX1 := kX1.lt
    go_wp2_with fail
    refine (HIM.out _ _ _ OX0.out.nl OX1.out.nl).mono ?_
    rintro e t40 ⟨v, rfl, hO, hb⟩
    clear qA0 lA0 qA1 lA1 qW lW qX0 lX0 qX1 lX1
    have hbdG := hb.size
    replace kA0 := Blk.by hb kA0
    replace kA1 := Blk.by hb kA1
    replace kW := Blk.by hb kW
    replace kX0 := Blk.by hb kX0
    replace kX1 := Blk.by hb kX1
    replace OW := Lib.hid (OW.out.by hb)
    replace OX0 := Lib.hid (OX0.out.by hb)
    replace OX1 := Lib.hid (OX1.out.by hb)
    replace hW := below_on hb hW
    clear hb
    try simp only [World.size_alloc, World.size_drew, size_drewN] at hbdG hO
    obtain ⟨Gl, Gh, hbeG, hO⟩ : ∃ l h, (_ ≤ l ∧ l ≤ h ∧ h ≤ t40.heap.size) ∧ OwnPr t40 l h _ y := ⟨_, _, ⟨Nat.le_refl _, hbdG, Nat.le_refl _⟩, hO⟩
    clear hbdG
    have OG := Lib.hid hO
    obtain ⟨aG, cG, aGd, cGd, rfl⟩ := hO.ma.sized
    clear hO
    try generalize t31.heap.size = pp2 at *
    replace kA0 := kA0.past (.cells #[.slice aG y.1.length cG, .slice aGd y.2.length cGd] 29)
    replace kA1 := kA1.past (.cells #[.slice aG y.1.length cG, .slice aGd y.2.length cGd] 29)
    replace kW := kW.past (.cells #[.slice aG y.1.length cG, .slice aGd y.2.length cGd] 29)
    replace kX0 := kX0.past (.cells #[.slice aG y.1.length cG, .slice aGd y.2.length cGd] 29)
    replace kX1 := kX1.past (.cells #[.slice aG y.1.length cG, .slice aGd y.2.length cGd] 29)
    replace OW := Lib.hid (OW.out.by ((Below.refl _ t40).alloc (Nat.le_refl _) (.cells #[.slice aG y.1.length cG, .slice aGd y.2.length cGd] 29)))
    replace OX0 := Lib.hid (OX0.out.by ((Below.refl _ t40).alloc (Nat.le_refl _) (.cells #[.slice aG y.1.length cG, .slice aGd y.2.length cGd] 29)))
    replace OX1 := Lib.hid (OX1.out.by ((Below.refl _ t40).alloc (Nat.le_refl _) (.cells #[.slice aG y.1.length cG, .slice aGd y.2.length cGd] 29)))
    replace OG := Lib.hid (OG.out.by ((Below.refl _ t40).alloc (Nat.le_refl _) (.cells #[.slice aG y.1.length cG, .slice aGd y.2.length cGd] 29)))
    have kG : Blk (t40.alloc (.cells #[.slice aG y.1.length cG, .slice aGd y.2.length cGd] 29)) t40.heap.size #[.slice aG y.1.length cG, .slice aGd y.2.length cGd] 29 := Blk.new _ rfl
    replace hW := below_al hW (.cells #[.slice aG y.1.length cG, .slice aGd y.2.length cGd] 29)
    have qA0 := kA0.cell
    have lA0 := kA0.lt
    have qA1 := kA1.cell
    have lA1 := kA1.lt
    have qW := kW.cell
    have lW := kW.lt
    have qX0 := kX0.cell
    have lX0 := kX0.lt
    have qX1 := kX1.cell
    have lX1 := kX1.lt
    have qG := kG.cell
    have lG := kG.lt
    go_wp2_with fail
    refine (HEQY.out _ _ _ OG.out.ma OW.out.ma).mono ?_
    rintro e t41 ⟨rfl, hb⟩
    clear qA0 lA0 qA1 lA1 qW lW qX0 lX0 qX1 lX1 qG lG
    replace kA0 := Blk.by hb kA0
    replace kA1 := Blk.by hb kA1
    replace kW := Blk.by hb kW
    replace kX0 := Blk.by hb kX0
    replace kX1 := Blk.by hb kX1
    replace kG := Blk.by hb kG
    replace OW := Lib.hid (OW.out.by hb)
    replace OX0 := Lib.hid (OX0.out.by hb)
    replace OX1 := Lib.hid (OX1.out.by hb)
    replace OG := Lib.hid (OG.out.by hb)
    replace hW := below_on hb hW
    clear hb
    try generalize t40.heap.size = pp3 at *
    have qA0 := kA0.cell
    have lA0 := kA0.lt
    have qA1 := kA1.cell
    have lA1 := kA1.lt
    have qW := kW.cell
    have lW := kW.lt
    have qX0 := kX0.cell
    have lX0 := kX0.lt
    have qX1 := kX1.cell
    have lX1 := kX1.lt
    have qG := kG.cell
    have lG := kG.lt
    go_wp2_with fail
    go_region_held3 (fun w' => (Blk w' (w.heap.size) #[.int .i64 x.nets, .slice a0 x.ds.length c0, .slice a0d x.ps.length c0d] 25 ∧ ∀ o, w'.cell? ⟨w.heap.size, o, none⟩ = (#[.int .i64 x.nets, .slice a0 x.ds.length c0, .slice a0d x.ps.length c0d] : Array Value)[o]?) ∧ (Blk w' (w.heap.size + 1) #[.int .i64 z.nets, .slice a1 z.ds.length c1, .slice a1d z.ps.length c1d] 25 ∧ ∀ o, w'.cell? ⟨w.heap.size + 1, o, none⟩ = (#[.int .i64 z.nets, .slice a1 z.ds.length c1, .slice a1d z.ps.length c1d] : Array Value)[o]?) ∧ (Blk w' (Wp) #[.slice aW y.1.length cW, .slice aWd y.2.length cWd] 29 ∧ ∀ o, w'.cell? ⟨Wp, o, none⟩ = (#[.slice aW y.1.length cW, .slice aWd y.2.length cWd] : Array Value)[o]?) ∧ (Blk w' (pp1) #[.int .i64 x.nets, .slice aX0 x.ds.length cX0, .slice aX0d x.ps.length cX0d] 35 ∧ ∀ o, w'.cell? ⟨pp1, o, none⟩ = (#[.int .i64 x.nets, .slice aX0 x.ds.length cX0, .slice aX0d x.ps.length cX0d] : Array Value)[o]?) ∧ (Blk w' (pp2) #[.int .i64 z.nets, .slice aX1 z.ds.length cX1, .slice aX1d z.ps.length cX1d] 35 ∧ ∀ o, w'.cell? ⟨pp2, o, none⟩ = (#[.int .i64 z.nets, .slice aX1 z.ds.length cX1, .slice aX1d z.ps.length cX1d] : Array Value)[o]?) ∧ (Blk w' (pp3) #[.slice aG y.1.length cG, .slice aGd y.2.length cGd] 29 ∧ ∀ o, w'.cell? ⟨pp3, o, none⟩ = (#[.slice aG y.1.length cG, .slice aGd y.2.length cGd] : Array Value)[o]?) ∧ Below w.heap.size w w') (((try (obtain ⟨⟨hS0, _⟩, ⟨hS1, _⟩, ⟨hS2, _⟩, ⟨hS3, _⟩, ⟨hS4, _⟩, ⟨hS5, _⟩, hSB⟩ := hHeld)); refine ⟨Blk.both ?_, Blk.both ?_, Blk.both ?_, Blk.both ?_, Blk.both ?_, Blk.both ?_, ?_⟩ <;> first | ((repeat (first | (with_reducible assumption) | (with_reducible refine Blk.drewN ?_ _) | (with_reducible refine Blk.drew ?_) | ((with_reducible refine Blk.new _ ?_); focus (first | omega | (simp; done) | (simp; omega))) | (with_reducible refine Blk.past ?_ _) | ((with_reducible refine Blk.apart ?_ _ _ _ ?_); rotate_left; focus (first | omega | (simp; done) | (simp; omega))) | (with_reducible refine Blk.by (by assumption) ?_))); done) | ((repeat (first | (with_reducible exact Below.refl _ _) | (with_reducible refine below_drewN ?_ _) | (with_reducible refine Below.drew ?_) | (with_reducible refine below_al ?_ _) | (with_reducible refine below_on (by assumption) ?_) | ((with_reducible refine Below.setCell ?_ ?_ _); rotate_left; focus (first | omega | (simp; done) | (simp; omega))) | (with_reducible assumption))); done)))
      (first | (go_at_call_of 12 (Value.agg #[Value.int IntKind.i64 x.nets, Value.slice a0 x.ds.length c0, Value.slice a0d x.ps.length c0d]); refine (HTO0.out _ _ ((HV0.out.by hW).by (below_of_drewN t41 1))).mono ?_; rintro e t50 ⟨v50_, rfl, hN, hb50⟩; have HN50 := Lib.hid hN; obtain ⟨a50, c50, a50d, c50d, rfl⟩ := hN.sized; clear hN) | (go_at_call 15; refine (HEQ0.out _ _ _ ((OX0.out.nl.by (below_of_drewN t41 1)).by hb50) HN50.out).mono ?_; rintro e t51 ⟨rfl, hb51⟩))
    clear qA0 lA0 qA1 lA1 qW lW qX0 lX0 qX1 lX1 qG lG
    replace kA0 := Blk.by (below_of_drewN t41 1) kA0
    replace kA1 := Blk.by (below_of_drewN t41 1) kA1
    replace kW := Blk.by (below_of_drewN t41 1) kW
    replace kX0 := Blk.by (below_of_drewN t41 1) kX0
    replace kX1 := Blk.by (below_of_drewN t41 1) kX1
    replace kG := Blk.by (below_of_drewN t41 1) kG
    replace OW := Lib.hid (OW.out.by (below_of_drewN t41 1))
    replace OX0 := Lib.hid (OX0.out.by (below_of_drewN t41 1))
    replace OX1 := Lib.hid (OX1.out.by (below_of_drewN t41 1))
    replace OG := Lib.hid (OG.out.by (below_of_drewN t41 1))
    replace hW := below_on (below_of_drewN t41 1) hW
    replace kA0 := Blk.by hb50 kA0
    replace kA1 := Blk.by hb50 kA1
    replace kW := Blk.by hb50 kW
    replace kX0 := Blk.by hb50 kX0
    replace kX1 := Blk.by hb50 kX1
    replace kG := Blk.by hb50 kG
    replace OW := Lib.hid (OW.out.by hb50)
    replace OX0 := Lib.hid (OX0.out.by hb50)
    replace OX1 := Lib.hid (OX1.out.by hb50)
    replace OG := Lib.hid (OG.out.by hb50)
    replace hW := below_on hb50 hW
    replace kA0 := Blk.by hb51 kA0
    replace kA1 := Blk.by hb51 kA1
    replace kW := Blk.by hb51 kW
    replace kX0 := Blk.by hb51 kX0
    replace kX1 := Blk.by hb51 kX1
    replace kG := Blk.by hb51 kG
    replace OW := Lib.hid (OW.out.by hb51)
    replace OX0 := Lib.hid (OX0.out.by hb51)
    replace OX1 := Lib.hid (OX1.out.by hb51)
    replace OG := Lib.hid (OG.out.by hb51)
    replace hW := below_on hb51 hW
    clear hb50 hb51 HN50
    have qA0 := kA0.cell
    have lA0 := kA0.lt
    have qA1 := kA1.cell
    have lA1 := kA1.lt
    have qW := kW.cell
    have lW := kW.lt
    have qX0 := kX0.cell
    have lX0 := kX0.lt
    have qX1 := kX1.cell
    have lX1 := kX1.lt
    have qG := kG.cell
    have lG := kG.lt
    go_wp2_with fail
    go_region_held3 (fun w' => (Blk w' (w.heap.size) #[.int .i64 x.nets, .slice a0 x.ds.length c0, .slice a0d x.ps.length c0d] 25 ∧ ∀ o, w'.cell? ⟨w.heap.size, o, none⟩ = (#[.int .i64 x.nets, .slice a0 x.ds.length c0, .slice a0d x.ps.length c0d] : Array Value)[o]?) ∧ (Blk w' (w.heap.size + 1) #[.int .i64 z.nets, .slice a1 z.ds.length c1, .slice a1d z.ps.length c1d] 25 ∧ ∀ o, w'.cell? ⟨w.heap.size + 1, o, none⟩ = (#[.int .i64 z.nets, .slice a1 z.ds.length c1, .slice a1d z.ps.length c1d] : Array Value)[o]?) ∧ (Blk w' (Wp) #[.slice aW y.1.length cW, .slice aWd y.2.length cWd] 29 ∧ ∀ o, w'.cell? ⟨Wp, o, none⟩ = (#[.slice aW y.1.length cW, .slice aWd y.2.length cWd] : Array Value)[o]?) ∧ (Blk w' (pp1) #[.int .i64 x.nets, .slice aX0 x.ds.length cX0, .slice aX0d x.ps.length cX0d] 35 ∧ ∀ o, w'.cell? ⟨pp1, o, none⟩ = (#[.int .i64 x.nets, .slice aX0 x.ds.length cX0, .slice aX0d x.ps.length cX0d] : Array Value)[o]?) ∧ (Blk w' (pp2) #[.int .i64 z.nets, .slice aX1 z.ds.length cX1, .slice aX1d z.ps.length cX1d] 35 ∧ ∀ o, w'.cell? ⟨pp2, o, none⟩ = (#[.int .i64 z.nets, .slice aX1 z.ds.length cX1, .slice aX1d z.ps.length cX1d] : Array Value)[o]?) ∧ (Blk w' (pp3) #[.slice aG y.1.length cG, .slice aGd y.2.length cGd] 29 ∧ ∀ o, w'.cell? ⟨pp3, o, none⟩ = (#[.slice aG y.1.length cG, .slice aGd y.2.length cGd] : Array Value)[o]?) ∧ Below w.heap.size w w') (((try (obtain ⟨⟨hS0, _⟩, ⟨hS1, _⟩, ⟨hS2, _⟩, ⟨hS3, _⟩, ⟨hS4, _⟩, ⟨hS5, _⟩, hSB⟩ := hHeld)); refine ⟨Blk.both ?_, Blk.both ?_, Blk.both ?_, Blk.both ?_, Blk.both ?_, Blk.both ?_, ?_⟩ <;> first | ((repeat (first | (with_reducible assumption) | (with_reducible refine Blk.drewN ?_ _) | (with_reducible refine Blk.drew ?_) | ((with_reducible refine Blk.new _ ?_); focus (first | omega | (simp; done) | (simp; omega))) | (with_reducible refine Blk.past ?_ _) | ((with_reducible refine Blk.apart ?_ _ _ _ ?_); rotate_left; focus (first | omega | (simp; done) | (simp; omega))) | (with_reducible refine Blk.by (by assumption) ?_))); done) | ((repeat (first | (with_reducible exact Below.refl _ _) | (with_reducible refine below_drewN ?_ _) | (with_reducible refine Below.drew ?_) | (with_reducible refine below_al ?_ _) | (with_reducible refine below_on (by assumption) ?_) | ((with_reducible refine Below.setCell ?_ ?_ _); rotate_left; focus (first | omega | (simp; done) | (simp; omega))) | (with_reducible assumption))); done)))
      (first | (go_at_call_of 12 (Value.agg #[Value.int IntKind.i64 z.nets, Value.slice a1 z.ds.length c1, Value.slice a1d z.ps.length c1d]); refine (HTO1.out _ _ ((HV1.out.by hW).by (below_of_drewN t51 1))).mono ?_; rintro e t52 ⟨v52_, rfl, hN, hb52⟩; have HN52 := Lib.hid hN; obtain ⟨a52, c52, a52d, c52d, rfl⟩ := hN.sized; clear hN) | (go_at_call 15; refine (HEQ1.out _ _ _ ((OX1.out.nl.by (below_of_drewN t51 1)).by hb52) HN52.out).mono ?_; rintro e t53 ⟨rfl, hb53⟩))
    clear qA0 lA0 qA1 lA1 qW lW qX0 lX0 qX1 lX1 qG lG
    replace kA0 := Blk.by (below_of_drewN t51 1) kA0
    replace kA1 := Blk.by (below_of_drewN t51 1) kA1
    replace kW := Blk.by (below_of_drewN t51 1) kW
    replace kX0 := Blk.by (below_of_drewN t51 1) kX0
    replace kX1 := Blk.by (below_of_drewN t51 1) kX1
    replace kG := Blk.by (below_of_drewN t51 1) kG
    replace OW := Lib.hid (OW.out.by (below_of_drewN t51 1))
    replace OX0 := Lib.hid (OX0.out.by (below_of_drewN t51 1))
    replace OX1 := Lib.hid (OX1.out.by (below_of_drewN t51 1))
    replace OG := Lib.hid (OG.out.by (below_of_drewN t51 1))
    replace hW := below_on (below_of_drewN t51 1) hW
    replace kA0 := Blk.by hb52 kA0
    replace kA1 := Blk.by hb52 kA1
    replace kW := Blk.by hb52 kW
    replace kX0 := Blk.by hb52 kX0
    replace kX1 := Blk.by hb52 kX1
    replace kG := Blk.by hb52 kG
    replace OW := Lib.hid (OW.out.by hb52)
    replace OX0 := Lib.hid (OX0.out.by hb52)
    replace OX1 := Lib.hid (OX1.out.by hb52)
    replace OG := Lib.hid (OG.out.by hb52)
    replace hW := below_on hb52 hW
    replace kA0 := Blk.by hb53 kA0
    replace kA1 := Blk.by hb53 kA1
    replace kW := Blk.by hb53 kW
    replace kX0 := Blk.by hb53 kX0
    replace kX1 := Blk.by hb53 kX1
    replace kG := Blk.by hb53 kG
    replace OW := Lib.hid (OW.out.by hb53)
    replace OX0 := Lib.hid (OX0.out.by hb53)
    replace OX1 := Lib.hid (OX1.out.by hb53)
    replace OG := Lib.hid (OG.out.by hb53)
    replace hW := below_on hb53 hW
    clear hb52 hb53 HN52
    have qA0 := kA0.cell
    have lA0 := kA0.lt
    have qA1 := kA1.cell
    have lA1 := kA1.lt
    have qW := kW.cell
    have lW := kW.lt
    have qX0 := kX0.cell
    have lX0 := kX0.lt
    have qX1 := kX1.cell
    have lX1 := kX1.lt
    have qG := kG.cell
    have lG := kG.lt
    go_wp2_with fail
    refine (HMX0.out _ _ _ _ OX0.out (by have := kX0.lt; omega)).mono ?_
    rintro e t60 ⟨rfl, hO, hw⟩
    clear qA0 lA0 qA1 lA1 qW lW qX0 lX0 qX1 lX1 qG lG
    replace kA0 := hw.blk kA0 (by omega)
    replace kA1 := hw.blk kA1 (by omega)
    replace kW := hw.blk kW (by omega)
    replace kX0 := hw.blk kX0 (by omega)
    replace kX1 := hw.blk kX1 (by omega)
    replace kG := hw.blk kG (by omega)
    replace OW := Lib.hid (OW.out.past hw (by omega))
    replace OX1 := Lib.hid (OX1.out.past hw (by omega))
    replace OG := Lib.hid (OG.out.past hw (by omega))
    replace hW := hw.below hW (by omega)
    replace OX0 := Lib.hid hO
    clear hO hw
    have qA0 := kA0.cell
    have lA0 := kA0.lt
    have qA1 := kA1.cell
    have lA1 := kA1.lt
    have qW := kW.cell
    have lW := kW.lt
    have qX0 := kX0.cell
    have lX0 := kX0.lt
    have qX1 := kX1.cell
    have lX1 := kX1.lt
    have qG := kG.cell
    have lG := kG.lt
    go_wp2_with fail
    refine (HMX1.out _ _ _ _ OX1.out (by have := kX1.lt; omega)).mono ?_
    rintro e t61 ⟨rfl, hO, hw⟩
    clear qA0 lA0 qA1 lA1 qW lW qX0 lX0 qX1 lX1 qG lG
    replace kA0 := hw.blk kA0 (by omega)
    replace kA1 := hw.blk kA1 (by omega)
    replace kW := hw.blk kW (by omega)
    replace kX0 := hw.blk kX0 (by omega)
    replace kX1 := hw.blk kX1 (by omega)
    replace kG := hw.blk kG (by omega)
    replace OW := Lib.hid (OW.out.past hw (by omega))
    replace OX0 := Lib.hid (OX0.out.past hw (by omega))
    replace OG := Lib.hid (OG.out.past hw (by omega))
    replace hW := hw.below hW (by omega)
    replace OX1 := Lib.hid hO
    clear hO hw
    have qA0 := kA0.cell
    have lA0 := kA0.lt
    have qA1 := kA1.cell
    have lA1 := kA1.lt
    have qW := kW.cell
    have lW := kW.lt
    have qX0 := kX0.cell
    have lX0 := kX0.lt
    have qX1 := kX1.cell
    have lX1 := kX1.lt
    have qG := kG.cell
    have lG := kG.lt
    go_wp2_with fail
    refine (HEQY.out _ _ _ OG.out.ma OW.out.ma).mono ?_
    rintro e t70 ⟨rfl, hb⟩
    clear qA0 lA0 qA1 lA1 qW lW qX0 lX0 qX1 lX1 qG lG
    replace kA0 := Blk.by hb kA0
    replace kA1 := Blk.by hb kA1
    replace kW := Blk.by hb kW
    replace kX0 := Blk.by hb kX0
    replace kX1 := Blk.by hb kX1
    replace kG := Blk.by hb kG
    replace OW := Lib.hid (OW.out.by hb)
    replace OX0 := Lib.hid (OX0.out.by hb)
    replace OX1 := Lib.hid (OX1.out.by hb)
    replace OG := Lib.hid (OG.out.by hb)
    replace hW := below_on hb hW
    clear hb
    have qA0 := kA0.cell
    have lA0 := kA0.lt
    have qA1 := kA1.cell
    have lA1 := kA1.lt
    have qW := kW.cell
    have lW := kW.lt
    have qX0 := kX0.cell
    have lX0 := kX0.lt
    have qX1 := kX1.cell
    have lX1 := kX1.lt
    have qG := kG.cell
    have lG := kG.lt
    go_wp2_with fail
    refine (HMY.out _ _ _ _ OG.out (by have := kG.lt; omega)).mono ?_
    rintro e t71 ⟨rfl, hO, hw⟩
    clear qA0 lA0 qA1 lA1 qW lW qX0 lX0 qX1 lX1 qG lG
    replace kA0 := hw.blk kA0 (by omega)
    replace kA1 := hw.blk kA1 (by omega)
    replace kW := hw.blk kW (by omega)
    replace kX0 := hw.blk kX0 (by omega)
    replace kX1 := hw.blk kX1 (by omega)
    replace kG := hw.blk kG (by omega)
    replace OW := Lib.hid (OW.out.past hw (by omega))
    replace OX0 := Lib.hid (OX0.out.past hw (by omega))
    replace OX1 := Lib.hid (OX1.out.past hw (by omega))
    replace hW := hw.below hW (by omega)
    replace OG := Lib.hid hO
    clear hO hw
    have qA0 := kA0.cell
    have lA0 := kA0.lt
    have qA1 := kA1.cell
    have lA1 := kA1.lt
    have qW := kW.cell
    have lW := kW.lt
    have qX0 := kX0.cell
    have lX0 := kX0.lt
    have qX1 := kX1.cell
    have lX1 := kX1.lt
    have qG := kG.cell
    have lG := kG.lt
    go_wp2_with fail
    refine (HHY.out _ _ OG.out.ma).mono ?_
    rintro e t72 ⟨rfl, hb⟩
    clear qA0 lA0 qA1 lA1 qW lW qX0 lX0 qX1 lX1 qG lG
    replace kA0 := Blk.by hb kA0
    replace kA1 := Blk.by hb kA1
    replace kW := Blk.by hb kW
    replace kX0 := Blk.by hb kX0
    replace kX1 := Blk.by hb kX1
    replace kG := Blk.by hb kG
    replace OW := Lib.hid (OW.out.by hb)
    replace OX0 := Lib.hid (OX0.out.by hb)
    replace OX1 := Lib.hid (OX1.out.by hb)
    replace OG := Lib.hid (OG.out.by hb)
    replace hW := below_on hb hW
    clear hb
    go_upto_region 31 with fail
    go_cut [15, 16] (fun s15 s16 wx => ∃ (Hp Hl Hh : Nat) (aH : Option Addr) (aHd : Option Addr) (cH : Nat) (cHd : Nat), s15 = .pointer (some ⟨Hp, 0, none⟩) ∧ s16 = .int .i64 p0 ∧ Blk wx Hp #[.slice aH y.1.length cH, .slice aHd y.2.length cHd] 29 ∧ Hid (OwnPr wx Hl Hh (.agg #[.slice aH y.1.length cH, .slice aHd y.2.length cHd]) y) ∧ (t72.heap.size ≤ Hl ∧ Hl ≤ Hh ∧ Hh ≤ wx.heap.size ∧ t72.heap.size ≤ Hp ∧ (Hp < Hl ∨ Hh ≤ Hp)) ∧ Blk wx (w.heap.size) #[.int .i64 x.nets, .slice a0 x.ds.length c0, .slice a0d x.ps.length c0d] 25 ∧ Blk wx (w.heap.size + 1) #[.int .i64 z.nets, .slice a1 z.ds.length c1, .slice a1d z.ps.length c1d] 25 ∧ Blk wx (Wp) #[.slice aW y.1.length cW, .slice aWd y.2.length cWd] 29 ∧ Blk wx (pp1) #[.int .i64 x.nets, .slice aX0 x.ds.length cX0, .slice aX0d x.ps.length cX0d] 35 ∧ Blk wx (pp2) #[.int .i64 z.nets, .slice aX1 z.ds.length cX1, .slice aX1d z.ps.length cX1d] 35 ∧ Blk wx (pp3) #[.slice aG y.1.length cG, .slice aGd y.2.length cGd] 29 ∧ Hid (OwnPr wx Wl Wh (.agg #[.slice aW y.1.length cW, .slice aWd y.2.length cWd]) y) ∧ Hid (OwnNl wx X0l X0h (.agg #[.int .i64 x.nets, .slice aX0 x.ds.length cX0, .slice aX0d x.ps.length cX0d]) (markNl 1 x)) ∧ Hid (OwnNl wx X1l X1h (.agg #[.int .i64 z.nets, .slice aX1 z.ds.length cX1, .slice aX1d z.ps.length cX1d]) (markNl mx0 z)) ∧ Hid (OwnPr wx Gl Gh (.agg #[.slice aG y.1.length cG, .slice aGd y.2.length cGd]) (markPr 1 y)) ∧ Below w.heap.size w wx)
    case first =>
      have qA0 := kA0.cell
      have lA0 := kA0.lt
      have qA1 := kA1.cell
      have lA1 := kA1.lt
      have qW := kW.cell
      have lW := kW.lt
      have qX0 := kX0.cell
      have lX0 := kX0.lt
      have qX1 := kX1.cell
      have lX1 := kX1.lt
      have qG := kG.cell
      have lG := kG.lt
      go_region_held3 (fun w' => (Blk w' (w.heap.size) #[.int .i64 x.nets, .slice a0 x.ds.length c0, .slice a0d x.ps.length c0d] 25 ∧ ∀ o, w'.cell? ⟨w.heap.size, o, none⟩ = (#[.int .i64 x.nets, .slice a0 x.ds.length c0, .slice a0d x.ps.length c0d] : Array Value)[o]?) ∧ (Blk w' (w.heap.size + 1) #[.int .i64 z.nets, .slice a1 z.ds.length c1, .slice a1d z.ps.length c1d] 25 ∧ ∀ o, w'.cell? ⟨w.heap.size + 1, o, none⟩ = (#[.int .i64 z.nets, .slice a1 z.ds.length c1, .slice a1d z.ps.length c1d] : Array Value)[o]?) ∧ (Blk w' (Wp) #[.slice aW y.1.length cW, .slice aWd y.2.length cWd] 29 ∧ ∀ o, w'.cell? ⟨Wp, o, none⟩ = (#[.slice aW y.1.length cW, .slice aWd y.2.length cWd] : Array Value)[o]?) ∧ (Blk w' (pp1) #[.int .i64 x.nets, .slice aX0 x.ds.length cX0, .slice aX0d x.ps.length cX0d] 35 ∧ ∀ o, w'.cell? ⟨pp1, o, none⟩ = (#[.int .i64 x.nets, .slice aX0 x.ds.length cX0, .slice aX0d x.ps.length cX0d] : Array Value)[o]?) ∧ (Blk w' (pp2) #[.int .i64 z.nets, .slice aX1 z.ds.length cX1, .slice aX1d z.ps.length cX1d] 35 ∧ ∀ o, w'.cell? ⟨pp2, o, none⟩ = (#[.int .i64 z.nets, .slice aX1 z.ds.length cX1, .slice aX1d z.ps.length cX1d] : Array Value)[o]?) ∧ (Blk w' (pp3) #[.slice aG y.1.length cG, .slice aGd y.2.length cGd] 29 ∧ ∀ o, w'.cell? ⟨pp3, o, none⟩ = (#[.slice aG y.1.length cG, .slice aGd y.2.length cGd] : Array Value)[o]?) ∧ Below w.heap.size w w') (((try (obtain ⟨⟨hS0, _⟩, ⟨hS1, _⟩, ⟨hS2, _⟩, ⟨hS3, _⟩, ⟨hS4, _⟩, ⟨hS5, _⟩, hSB⟩ := hHeld)); refine ⟨Blk.both ?_, Blk.both ?_, Blk.both ?_, Blk.both ?_, Blk.both ?_, Blk.both ?_, ?_⟩ <;> first | ((repeat (first | (with_reducible assumption) | (with_reducible refine Blk.drewN ?_ _) | (with_reducible refine Blk.drew ?_) | ((with_reducible refine Blk.new _ ?_); focus (first | omega | (simp; done) | (simp; omega))) | (with_reducible refine Blk.past ?_ _) | ((with_reducible refine Blk.apart ?_ _ _ _ ?_); rotate_left; focus (first | omega | (simp; done) | (simp; omega))) | (with_reducible refine Blk.by (by assumption) ?_))); done) | ((repeat (first | (with_reducible exact Below.refl _ _) | (with_reducible refine below_drewN ?_ _) | (with_reducible refine Below.drew ?_) | (with_reducible refine below_al ?_ _) | (with_reducible refine below_on (by assumption) ?_) | ((with_reducible refine Below.setCell ?_ ?_ _); rotate_left; focus (first | omega | (simp; done) | (simp; omega))) | (with_reducible assumption))); done)))
        (first | (go_at_call_of 12 (Value.agg #[Value.int IntKind.i64 x.nets, Value.slice a0 x.ds.length c0, Value.slice a0d x.ps.length c0d]); refine (HTO0.out _ _ (HV0.out.by blwT)).mono ?_; rintro e t80 ⟨v80_, rfl, hN, hb80⟩; have HN80 := Lib.hid hN; obtain ⟨a80, c80, a80d, c80d, rfl⟩ := hN.sized; clear hN; have hz80 := hb80.size; (try simp only [World.size_alloc, size_drewN, World.size_drew] at hz80); (try (refine with_fact (p := Blk t80 (t72.heap.size) #[.slice none 0 0, .slice none 0 0] 29) (Blk.by hb80 ?_) ?_; (focus ((repeat (first | (with_reducible assumption) | (with_reducible refine Blk.drewN ?_ _) | (with_reducible refine Blk.drew ?_) | ((with_reducible refine Blk.new _ ?_); focus (first | omega | (simp; done) | (simp; omega))) | (with_reducible refine Blk.past ?_ _) | ((with_reducible refine Blk.apart ?_ _ _ _ ?_); rotate_left; focus (first | omega | (simp; done) | (simp; omega))) | (with_reducible refine Blk.by (by assumption) ?_))); done)); intro kzt80_0; have czt80_0 := kzt80_0.cell; have fzt80_0 := kzt80_0.free; have lzt80_0 := kzt80_0.lt))) | (go_at_call_of 12 (Value.agg #[Value.int IntKind.i64 z.nets, Value.slice a1 z.ds.length c1, Value.slice a1d z.ps.length c1d]); refine (HTO1.out _ _ (HV1.out.by blwT)).mono ?_; rintro e t81 ⟨v81_, rfl, hN, hb81⟩; have HN81 := Lib.hid hN; obtain ⟨a81, c81, a81d, c81d, rfl⟩ := hN.sized; clear hN; have hz81 := hb81.size; (try simp only [World.size_alloc, size_drewN, World.size_drew] at hz81); (try (refine with_fact (p := Blk t81 (t72.heap.size) #[.slice none 0 0, .slice none 0 0] 29) (Blk.by hb81 ?_) ?_; (focus ((repeat (first | (with_reducible assumption) | (with_reducible refine Blk.drewN ?_ _) | (with_reducible refine Blk.drew ?_) | ((with_reducible refine Blk.new _ ?_); focus (first | omega | (simp; done) | (simp; omega))) | (with_reducible refine Blk.past ?_ _) | ((with_reducible refine Blk.apart ?_ _ _ _ ?_); rotate_left; focus (first | omega | (simp; done) | (simp; omega))) | (with_reducible refine Blk.by (by assumption) ?_))); done)); intro kzt81_0; have czt81_0 := kzt81_0.cell; have fzt81_0 := kzt81_0.free; have lzt81_0 := kzt81_0.lt)); (try (refine with_fact (p := Blk t81 (t80.heap.size) #[.slice none 0 0, .slice none 0 0] 29) (Blk.by hb81 ?_) ?_; (focus ((repeat (first | (with_reducible assumption) | (with_reducible refine Blk.drewN ?_ _) | (with_reducible refine Blk.drew ?_) | ((with_reducible refine Blk.new _ ?_); focus (first | omega | (simp; done) | (simp; omega))) | (with_reducible refine Blk.past ?_ _) | ((with_reducible refine Blk.apart ?_ _ _ _ ?_); rotate_left; focus (first | omega | (simp; done) | (simp; omega))) | (with_reducible refine Blk.by (by assumption) ?_))); done)); intro kzt81_1; have czt81_1 := kzt81_1.cell; have fzt81_1 := kzt81_1.free; have lzt81_1 := kzt81_1.lt))) | (go_at_call 13; refine (HIM.out _ _ _ (HN80.out.by blwT) (HN81.out.by blwT)).mono ?_; rintro e t90 ⟨v, rfl, hO, hb90⟩; obtain ⟨Hl, hlH, hO⟩ : ∃ lo, (_ = lo) ∧ OwnPr t90 lo t90.heap.size v y := ⟨_, rfl, hO⟩; have OH := Lib.hid hO; obtain ⟨aH, cH, aHd, cHd, rfl⟩ := hO.ma.sized; clear hO; have hz90 := hb90.size; (try simp only [World.size_alloc, size_drewN, World.size_drew] at hz90 hlH); (try (refine with_fact (p := Blk t90 (t72.heap.size) #[.slice none 0 0, .slice none 0 0] 29) (Blk.by hb90 ?_) ?_; (focus ((repeat (first | (with_reducible assumption) | (with_reducible refine Blk.drewN ?_ _) | (with_reducible refine Blk.drew ?_) | ((with_reducible refine Blk.new _ ?_); focus (first | omega | (simp; done) | (simp; omega))) | (with_reducible refine Blk.past ?_ _) | ((with_reducible refine Blk.apart ?_ _ _ _ ?_); rotate_left; focus (first | omega | (simp; done) | (simp; omega))) | (with_reducible refine Blk.by (by assumption) ?_))); done)); intro kzt90_0; have czt90_0 := kzt90_0.cell; have fzt90_0 := kzt90_0.free; have lzt90_0 := kzt90_0.lt)); (try (refine with_fact (p := Blk t90 (t80.heap.size) #[.slice none 0 0, .slice none 0 0] 29) (Blk.by hb90 ?_) ?_; (focus ((repeat (first | (with_reducible assumption) | (with_reducible refine Blk.drewN ?_ _) | (with_reducible refine Blk.drew ?_) | ((with_reducible refine Blk.new _ ?_); focus (first | omega | (simp; done) | (simp; omega))) | (with_reducible refine Blk.past ?_ _) | ((with_reducible refine Blk.apart ?_ _ _ _ ?_); rotate_left; focus (first | omega | (simp; done) | (simp; omega))) | (with_reducible refine Blk.by (by assumption) ?_))); done)); intro kzt90_1; have czt90_1 := kzt90_1.cell; have fzt90_1 := kzt90_1.free; have lzt90_1 := kzt90_1.lt)); (try (refine with_fact (p := Blk t90 (t81.heap.size) #[.slice none 0 0, .slice none 0 0] 29) (Blk.by hb90 ?_) ?_; (focus ((repeat (first | (with_reducible assumption) | (with_reducible refine Blk.drewN ?_ _) | (with_reducible refine Blk.drew ?_) | ((with_reducible refine Blk.new _ ?_); focus (first | omega | (simp; done) | (simp; omega))) | (with_reducible refine Blk.past ?_ _) | ((with_reducible refine Blk.apart ?_ _ _ _ ?_); rotate_left; focus (first | omega | (simp; done) | (simp; omega))) | (with_reducible refine Blk.by (by assumption) ?_))); done)); intro kzt90_2; have czt90_2 := kzt90_2.cell; have fzt90_2 := kzt90_2.free; have lzt90_2 := kzt90_2.lt))))
      all_goals (go_wp2_with fail; go_meet)
      all_goals
        refine ⟨_, Hl, t90.heap.size, aH, aHd, cH, cHd, rfl, rfl, ?_, ?_, ?_, ?_, ?_, ?_, ?_, ?_, ?_, ?_, ?_, ?_, ?_, ?_⟩
        · (first | (with_reducible exact Blk.new _ rfl) | ((with_reducible refine Blk.set2 (a := .slice none 0 0) (b := .slice none 0 0) ?_); with_reducible assumption))
        · first | (with_reducible refine Lib.hid (OwnPr.by ((Below.refl _ t90).alloc (Nat.le_refl _) _) OH.out)) | ((with_reducible refine Lib.hid (OwnPr.past (Within.off _) (OwnPr.past (Within.off _) OH.out ?_) ?_)) <;> omega)
        · simp only [World.size_alloc, World.size_setCell]; omega
        · ((repeat (first | (with_reducible assumption) | (with_reducible refine Blk.drewN ?_ _) | (with_reducible refine Blk.drew ?_) | ((with_reducible refine Blk.new _ ?_); focus (first | omega | (simp; done) | (simp; omega))) | (with_reducible refine Blk.past ?_ _) | ((with_reducible refine Blk.apart ?_ _ _ _ ?_); rotate_left; focus (first | omega | (simp; done) | (simp; omega))) | (with_reducible refine Blk.by (by assumption) ?_))); done)
        · ((repeat (first | (with_reducible assumption) | (with_reducible refine Blk.drewN ?_ _) | (with_reducible refine Blk.drew ?_) | ((with_reducible refine Blk.new _ ?_); focus (first | omega | (simp; done) | (simp; omega))) | (with_reducible refine Blk.past ?_ _) | ((with_reducible refine Blk.apart ?_ _ _ _ ?_); rotate_left; focus (first | omega | (simp; done) | (simp; omega))) | (with_reducible refine Blk.by (by assumption) ?_))); done)
        · ((repeat (first | (with_reducible assumption) | (with_reducible refine Blk.drewN ?_ _) | (with_reducible refine Blk.drew ?_) | ((with_reducible refine Blk.new _ ?_); focus (first | omega | (simp; done) | (simp; omega))) | (with_reducible refine Blk.past ?_ _) | ((with_reducible refine Blk.apart ?_ _ _ _ ?_); rotate_left; focus (first | omega | (simp; done) | (simp; omega))) | (with_reducible refine Blk.by (by assumption) ?_))); done)
        · ((repeat (first | (with_reducible assumption) | (with_reducible refine Blk.drewN ?_ _) | (with_reducible refine Blk.drew ?_) | ((with_reducible refine Blk.new _ ?_); focus (first | omega | (simp; done) | (simp; omega))) | (with_reducible refine Blk.past ?_ _) | ((with_reducible refine Blk.apart ?_ _ _ _ ?_); rotate_left; focus (first | omega | (simp; done) | (simp; omega))) | (with_reducible refine Blk.by (by assumption) ?_))); done)
        · ((repeat (first | (with_reducible assumption) | (with_reducible refine Blk.drewN ?_ _) | (with_reducible refine Blk.drew ?_) | ((with_reducible refine Blk.new _ ?_); focus (first | omega | (simp; done) | (simp; omega))) | (with_reducible refine Blk.past ?_ _) | ((with_reducible refine Blk.apart ?_ _ _ _ ?_); rotate_left; focus (first | omega | (simp; done) | (simp; omega))) | (with_reducible refine Blk.by (by assumption) ?_))); done)
        · ((repeat (first | (with_reducible assumption) | (with_reducible refine Blk.drewN ?_ _) | (with_reducible refine Blk.drew ?_) | ((with_reducible refine Blk.new _ ?_); focus (first | omega | (simp; done) | (simp; omega))) | (with_reducible refine Blk.past ?_ _) | ((with_reducible refine Blk.apart ?_ _ _ _ ?_); rotate_left; focus (first | omega | (simp; done) | (simp; omega))) | (with_reducible refine Blk.by (by assumption) ?_))); done)
        · first | ((with_reducible refine Lib.hid (OwnPr.by ?_ OW.out)); ((repeat (first | (with_reducible exact Below.refl _ _) | (with_reducible refine below_drewN ?_ _) | (with_reducible refine Below.drew ?_) | (with_reducible refine below_al ?_ _) | (with_reducible refine below_on (by assumption) ?_) | ((with_reducible refine Below.setCell ?_ ?_ _); rotate_left; focus (first | omega | (simp; done) | (simp; omega))) | (with_reducible assumption))); done)) | ((with_reducible refine Lib.hid (OwnPr.past (Within.off _) (OwnPr.past (Within.off _) (OwnPr.by ?_ OW.out) ?_) ?_)) <;> first | omega | ((repeat (first | (with_reducible exact Below.refl _ _) | (with_reducible refine below_drewN ?_ _) | (with_reducible refine Below.drew ?_) | (with_reducible refine below_al ?_ _) | (with_reducible refine below_on (by assumption) ?_) | ((with_reducible refine Below.setCell ?_ ?_ _); rotate_left; focus (first | omega | (simp; done) | (simp; omega))) | (with_reducible assumption))); done))
        · first | ((with_reducible refine Lib.hid (OwnNl.by ?_ OX0.out)); ((repeat (first | (with_reducible exact Below.refl _ _) | (with_reducible refine below_drewN ?_ _) | (with_reducible refine Below.drew ?_) | (with_reducible refine below_al ?_ _) | (with_reducible refine below_on (by assumption) ?_) | ((with_reducible refine Below.setCell ?_ ?_ _); rotate_left; focus (first | omega | (simp; done) | (simp; omega))) | (with_reducible assumption))); done)) | ((with_reducible refine Lib.hid (OwnNl.past (Within.off _) (OwnNl.past (Within.off _) (OwnNl.by ?_ OX0.out) ?_) ?_)) <;> first | omega | ((repeat (first | (with_reducible exact Below.refl _ _) | (with_reducible refine below_drewN ?_ _) | (with_reducible refine Below.drew ?_) | (with_reducible refine below_al ?_ _) | (with_reducible refine below_on (by assumption) ?_) | ((with_reducible refine Below.setCell ?_ ?_ _); rotate_left; focus (first | omega | (simp; done) | (simp; omega))) | (with_reducible assumption))); done))
        · first | ((with_reducible refine Lib.hid (OwnNl.by ?_ OX1.out)); ((repeat (first | (with_reducible exact Below.refl _ _) | (with_reducible refine below_drewN ?_ _) | (with_reducible refine Below.drew ?_) | (with_reducible refine below_al ?_ _) | (with_reducible refine below_on (by assumption) ?_) | ((with_reducible refine Below.setCell ?_ ?_ _); rotate_left; focus (first | omega | (simp; done) | (simp; omega))) | (with_reducible assumption))); done)) | ((with_reducible refine Lib.hid (OwnNl.past (Within.off _) (OwnNl.past (Within.off _) (OwnNl.by ?_ OX1.out) ?_) ?_)) <;> first | omega | ((repeat (first | (with_reducible exact Below.refl _ _) | (with_reducible refine below_drewN ?_ _) | (with_reducible refine Below.drew ?_) | (with_reducible refine below_al ?_ _) | (with_reducible refine below_on (by assumption) ?_) | ((with_reducible refine Below.setCell ?_ ?_ _); rotate_left; focus (first | omega | (simp; done) | (simp; omega))) | (with_reducible assumption))); done))
        · first | ((with_reducible refine Lib.hid (OwnPr.by ?_ OG.out)); ((repeat (first | (with_reducible exact Below.refl _ _) | (with_reducible refine below_drewN ?_ _) | (with_reducible refine Below.drew ?_) | (with_reducible refine below_al ?_ _) | (with_reducible refine below_on (by assumption) ?_) | ((with_reducible refine Below.setCell ?_ ?_ _); rotate_left; focus (first | omega | (simp; done) | (simp; omega))) | (with_reducible assumption))); done)) | ((with_reducible refine Lib.hid (OwnPr.past (Within.off _) (OwnPr.past (Within.off _) (OwnPr.by ?_ OG.out) ?_) ?_)) <;> first | omega | ((repeat (first | (with_reducible exact Below.refl _ _) | (with_reducible refine below_drewN ?_ _) | (with_reducible refine Below.drew ?_) | (with_reducible refine below_al ?_ _) | (with_reducible refine below_on (by assumption) ?_) | ((with_reducible refine Below.setCell ?_ ?_ _); rotate_left; focus (first | omega | (simp; done) | (simp; omega))) | (with_reducible assumption))); done))
        · ((repeat (first | (with_reducible exact Below.refl _ _) | (with_reducible refine below_drewN ?_ _) | (with_reducible refine Below.drew ?_) | (with_reducible refine below_al ?_ _) | (with_reducible refine below_on (by assumption) ?_) | ((with_reducible refine Below.setCell ?_ ?_ _); rotate_left; focus (first | omega | (simp; done) | (simp; omega))) | (with_reducible assumption))); done)
    case rest =>
      obtain ⟨Hp, Hl, Hh, aH, aHd, cH, cHd, rfl, rfl, kH', OH', hbeH, kA0_, kA1_, kW_, kX0_, kX1_, kG_, OW_, OX0_, OX1_, OG_, hW_⟩ := hcut
      replace kA0 := kA0_
      clear kA0_
      replace kA1 := kA1_
      clear kA1_
      replace kW := kW_
      clear kW_
      replace kX0 := kX0_
      clear kX0_
      replace kX1 := kX1_
      clear kX1_
      replace kG := kG_
      clear kG_
      replace OW := OW_
      clear OW_
      replace OX0 := OX0_
      clear OX0_
      replace OX1 := OX1_
      clear OX1_
      replace OG := OG_
      clear OG_
      have hWzH := hW.size
      replace hW := hW_
      clear hW_
      have kH := kH'
      have OH := OH'
      clear kH' OH'
      obtain ⟨c80, hc80⟩ : ∃ x : World, x = wc := ⟨_, rfl⟩
      subst hc80
      have lzH_A0 := kA0.lt
      have lzH_A1 := kA1.lt
      have lzH_W := kW.lt
      have lzH_X0 := kX0.lt
      have lzH_X1 := kX1.lt
      have lzH_G := kG.lt
      have lzH_H := kH.lt
      have qA0 := kA0.cell
      have lA0 := kA0.lt
      have qA1 := kA1.cell
      have lA1 := kA1.lt
      have qW := kW.cell
      have lW := kW.lt
      have qX0 := kX0.cell
      have lX0 := kX0.lt
      have qX1 := kX1.cell
      have lX1 := kX1.lt
      have qG := kG.cell
      have lG := kG.lt
      have qH := kH.cell
      have lH := kH.lt
      go_wp2_with fail
      refine (HEQY.out _ _ _ OH.out.ma OW.out.ma).mono ?_
      rintro e t91 ⟨rfl, hb⟩
      clear qA0 lA0 qA1 lA1 qW lW qX0 lX0 qX1 lX1 qG lG qH lH
      replace kA0 := Blk.by hb kA0
      replace kA1 := Blk.by hb kA1
      replace kW := Blk.by hb kW
      replace kX0 := Blk.by hb kX0
      replace kX1 := Blk.by hb kX1
      replace kG := Blk.by hb kG
      replace kH := Blk.by hb kH
      replace OW := Lib.hid (OW.out.by hb)
      replace OX0 := Lib.hid (OX0.out.by hb)
      replace OX1 := Lib.hid (OX1.out.by hb)
      replace OG := Lib.hid (OG.out.by hb)
      replace OH := Lib.hid (OH.out.by hb)
      replace hW := below_on hb hW
      clear hb
      have qA0 := kA0.cell
      have lA0 := kA0.lt
      have qA1 := kA1.cell
      have lA1 := kA1.lt
      have qW := kW.cell
      have lW := kW.lt
      have qX0 := kX0.cell
      have lX0 := kX0.lt
      have qX1 := kX1.cell
      have lX1 := kX1.lt
      have qG := kG.cell
      have lG := kG.lt
      have qH := kH.cell
      have lH := kH.lt
      go_wp2_with fail
      refine (HHY.out _ _ OG.out.ma).mono ?_
      rintro e t92 ⟨rfl, hb⟩
      clear qA0 lA0 qA1 lA1 qW lW qX0 lX0 qX1 lX1 qG lG qH lH
      replace kA0 := Blk.by hb kA0
      replace kA1 := Blk.by hb kA1
      replace kW := Blk.by hb kW
      replace kX0 := Blk.by hb kX0
      replace kX1 := Blk.by hb kX1
      replace kG := Blk.by hb kG
      replace kH := Blk.by hb kH
      replace OW := Lib.hid (OW.out.by hb)
      replace OX0 := Lib.hid (OX0.out.by hb)
      replace OX1 := Lib.hid (OX1.out.by hb)
      replace OG := Lib.hid (OG.out.by hb)
      replace OH := Lib.hid (OH.out.by hb)
      replace hW := below_on hb hW
      clear hb
      have qA0 := kA0.cell
      have lA0 := kA0.lt
      have qA1 := kA1.cell
      have lA1 := kA1.lt
      have qW := kW.cell
      have lW := kW.lt
      have qX0 := kX0.cell
      have lX0 := kX0.lt
      have qX1 := kX1.cell
      have lX1 := kX1.lt
      have qG := kG.cell
      have lG := kG.lt
      have qH := kH.cell
      have lH := kH.lt
      go_wp2
      go_ret
      exact ⟨rfl, hW⟩
end Go.Proofs.YtifbffianbgeaaaGreat.fnExactCompareNetlists
namespace Go.Proofs.YtifbffianbgeaaaGreat.facts
open Go.RowKit Go.Proofs.YtifbffianbgeaaaGreat
theorem laid : (laidOutB Tryz.pinned.checked.prog) = true := by kernel_rfl
theorem rowed : (mapsRowed Tryz.pinned.checked.prog) = true := by kernel_rfl
theorem stops : (Tryz.pinned.checked.prog.stops == []) = true := by kernel_rfl
theorem knobs : (Tryz.pinned.checked.prog.stopKnobs == []) = true := by kernel_rfl
theorem keys : (Rows.fnExactCompareNetlistsRow.plainKeys == Tryz.pinned.checked.prog.plainKeys) = true := by kernel_rfl
theorem heard : (Tryz.pinned.checked.prog.stopsHeard) = true := by kernel_rfl
theorem enter : (Tryz.pinned.checked.prog.mayEnter) = true := by kernel_rfl
theorem lifts : (Rows.fnExactCompareNetlistsRow.lifted == Tryz.pinned.checked.prog.liftsFinal) = true := by kernel_rfl
theorem make : (Tryz.pinned.checked.prog.make == some Rows.fnExactCompareNetlistsRow.make) = true := by kernel_rfl
theorem own : ownKnob Tryz.prog.godebug = none := by kernel_rfl
theorem laidOut : laidOutB Tryz.prog = true := laid
end Go.Proofs.YtifbffianbgeaaaGreat.facts
