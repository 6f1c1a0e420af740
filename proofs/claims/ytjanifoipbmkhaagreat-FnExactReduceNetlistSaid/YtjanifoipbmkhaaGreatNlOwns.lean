/- Netlists in memory of the call's own; marking them. -/
import Derived.Test.YtjanifoipbmkhaaGreatMarks
import Derived.Test.YtjanifoipbmkhaaGreatNls
namespace Go.Proofs.YtjanifoipbmkhaaGreat
open Go.RowKit
set_option linter.unusedVariables false
set_option linter.unusedSimpArgs false

/-- A netlist, all of whose memory lies in blocks from lo on and below hi, devices and ports apart. -/
def OwnNl (w : World) (lo hi : Nat) (v : Value) (x : Nl) : Prop := ∃ s1 s2 l1 h1 l2 h2, v = .agg #[.int .i64 x.nets, s1, s2] ∧ OwnDs w l1 h1 s1 x.ds ∧ OwnPs w l2 h2 s2 x.ps ∧ (lo ≤ l1 ∧ h1 ≤ hi) ∧ (lo ≤ l2 ∧ h2 ≤ hi) ∧ (h1 ≤ l2 ∨ h2 ≤ l1)
section
variable {w w' : World} {lo hi lo' hi' : Nat} {v : Value} {x : Nl}
theorem OwnNl.by (hb : Below w.heap.size w w') (h : OwnNl w lo hi v x) : OwnNl w' lo hi v x := by
  obtain ⟨s1, s2, l1, h1, l2, h2, e, a, b, c⟩ := h; exact ⟨s1, s2, l1, h1, l2, h2, e, a.by hb, b.by hb, c⟩
theorem OwnNl.past (hb : Within lo' hi' w w') (h : OwnNl w lo hi v x) (hd : hi ≤ lo' ∨ hi' ≤ lo) : OwnNl w' lo hi v x := by
  obtain ⟨s1, s2, l1, h1, l2, h2, e, a, b, c, d, f⟩ := h; exact ⟨s1, s2, l1, h1, l2, h2, e, a.past hb (by omega), b.past hb (by omega), c, d, f⟩
theorem OwnNl.wide (h : OwnNl w lo hi v x) (h1 : lo' ≤ lo) (h2 : hi ≤ hi') : OwnNl w lo' hi' v x := by
  obtain ⟨s1, s2, l1, h1, l2, h2, e, a, b, c, d, f⟩ := h; exact ⟨s1, s2, l1, h1, l2, h2, e, a, b, by omega, by omega, f⟩
theorem OwnNl.nl (h : OwnNl w lo hi v x) : NlV w v x := by
  obtain ⟨s1, s2, l1, h1, l2, h2, e, a, b, c⟩ := h; exact ⟨s1, s2, e, a.sl, b.sl⟩
end
def nsum (x : Nl) : Nat := (dsum x.ds).toNat + 2 * x.ps.length
/-- A marked netlist. -/
def markNl (k : Nat) (x : Nl) : Nl := ⟨x.nets, markDs k x.ds, markPs (k + (dsum x.ds).toNat) x.ps.length⟩

set_option maxRecDepth 100000 in
set_option maxHeartbeats 2000000 in
theorem toPortS_own (sv : Value) (xs : List Pt) (w : World) (h : PtSl w sv xs) (hn : xs.length ≤ 1048576) :
    Calls Tryz.prog 21 #[sv] w fun e w' => ∃ v, e = .returned v ∧ OwnPs w' w.heap.size w'.heap.size v xs ∧ Below w.heap.size w w' := by
  refine (toPortS_any sv xs w h hn).mono ?_
  rintro e w' ⟨g, rfl, ⟨cs, h1, h2, h3⟩, hg, hb⟩
  exact ⟨_, rfl, .inr ⟨g, xs.length, cs, rfl, ⟨hg, h1.lt⟩, Nat.le_refl _, by unfold maxLen; omega, h1, h3⟩, hb⟩

theorem Within.off {g o : Nat} {w : World} (v : Value) : Within g (g + 1) w (w.setCell ⟨g, o, none⟩ v) := Within.set (Within.refl g (g + 1) w) g o v (Nat.le_refl _) (by omega)

set_option maxRecDepth 100000 in
set_option maxHeartbeats 2000000 in
theorem toNetlist_own (v : Value) (x : Nl) (w : World) (h : NlV w v x) (hn : x.ds.length ≤ 1048576) (hpn : ∀ d ∈ x.ds, d.pins.length ≤ 1048576) (hn' : x.ps.length ≤ 1048576) :
    Calls Tryz.prog 6 #[v] w fun e w' => ∃ v', e = .returned v' ∧ OwnNl w' w.heap.size w'.heap.size v' x ∧ Below w.heap.size w w' := by
  obtain ⟨s1, s2, rfl, h, h'⟩ := h
  obtain ⟨nets, ds, ps⟩ := x
  dsimp only at h h' hn hpn hn' ⊢
  have HD := Lib.hid (fun w h => toDeviceS_own s1 ds w h hn hpn)
  have HP := Lib.hid (fun w h => toPortS_own s2 ps w h hn')
  obtain ⟨a, c, rfl⟩ := h.sized
  obtain ⟨a', c', rfl⟩ := h'.sized
  go_enter Tryz.func6, Tryz.ntmps6
  go_wp2_with fail
  refine (HD.out _ (h.by (by ((repeat (first | (with_reducible exact Below.refl _ _) | (with_reducible refine below_drewN ?_ _) | (with_reducible refine Below.drew ?_) | (with_reducible refine below_al ?_ _) | (with_reducible refine below_on (by assumption) ?_) | ((with_reducible refine Below.setCell ?_ ?_ _); rotate_left; focus (first | omega | (simp; done) | (simp; omega))) | (with_reducible assumption))); done)))).mono ?_
  rintro e w1 ⟨v1, rfl, hG, hb1⟩
  have k0 : Blk w1 w.heap.size #[.int .i64 nets, .slice a ds.length c, .slice a' ps.length c'] 25 := (by ((repeat (first | (with_reducible assumption) | (with_reducible refine Blk.drewN ?_ _) | (with_reducible refine Blk.drew ?_) | ((with_reducible refine Blk.new _ ?_); focus (first | omega | (simp; done) | (simp; omega))) | (with_reducible refine Blk.past ?_ _) | ((with_reducible refine Blk.apart ?_ _ _ _ ?_); rotate_left; focus (first | omega | (simp; done) | (simp; omega))) | (with_reducible refine Blk.by (by assumption) ?_))); done))
  have k1 : Blk w1 (w.heap.size + 1) #[.int .i64 0, .slice none 0 0, .slice none 0 0] 30 := (by ((repeat (first | (with_reducible assumption) | (with_reducible refine Blk.drewN ?_ _) | (with_reducible refine Blk.drew ?_) | ((with_reducible refine Blk.new _ ?_); focus (first | omega | (simp; done) | (simp; omega))) | (with_reducible refine Blk.past ?_ _) | ((with_reducible refine Blk.apart ?_ _ _ _ ?_); rotate_left; focus (first | omega | (simp; done) | (simp; omega))) | (with_reducible refine Blk.by (by assumption) ?_))); done))
  have k2 : Blk w1 (w.heap.size + 1 + 1) #[.int .i64 nets, .slice none 0 0, .slice none 0 0] 30 := (by ((repeat (first | (with_reducible assumption) | (with_reducible refine Blk.drewN ?_ _) | (with_reducible refine Blk.drew ?_) | ((with_reducible refine Blk.new _ ?_); focus (first | omega | (simp; done) | (simp; omega))) | (with_reducible refine Blk.past ?_ _) | ((with_reducible refine Blk.apart ?_ _ _ _ ?_); rotate_left; focus (first | omega | (simp; done) | (simp; omega))) | (with_reducible refine Blk.by (by assumption) ?_))); done))
  have l2 := k2.lt
  have c0 := k0.cell
  have c2 := k2.cell
  have f2 := k2.free
  simp only [World.size_alloc] at hG
  have HG := Lib.hid hG
  obtain ⟨a1, c1, rfl⟩ := hG.sl.sized
  clear hG
  go_wp2_with fail
  have hbw : Below w.heap.size w (w1.setCell ⟨w.heap.size + 1 + 1, 1, none⟩ (.slice a1 ds.length c1)) := (by ((repeat (first | (with_reducible exact Below.refl _ _) | (with_reducible refine below_drewN ?_ _) | (with_reducible refine Below.drew ?_) | (with_reducible refine below_al ?_ _) | (with_reducible refine below_on (by assumption) ?_) | ((with_reducible refine Below.setCell ?_ ?_ _); rotate_left; focus (first | omega | (simp; done) | (simp; omega))) | (with_reducible assumption))); done))
  refine (HP.out _ (h'.by hbw)).mono ?_
  rintro e w2 ⟨v2, rfl, hF, hb2⟩
  replace k1 : Blk w2 (w.heap.size + 1) #[.int .i64 0, .slice none 0 0, .slice none 0 0] 30 := (by ((repeat (first | (with_reducible assumption) | (with_reducible refine Blk.drewN ?_ _) | (with_reducible refine Blk.drew ?_) | ((with_reducible refine Blk.new _ ?_); focus (first | omega | (simp; done) | (simp; omega))) | (with_reducible refine Blk.past ?_ _) | ((with_reducible refine Blk.apart ?_ _ _ _ ?_); rotate_left; focus (first | omega | (simp; done) | (simp; omega))) | (with_reducible refine Blk.by (by assumption) ?_))); done))
  replace k2 : Blk w2 (w.heap.size + 1 + 1) #[.int .i64 nets, .slice a1 ds.length c1, .slice none 0 0] 30 := Blk.by hb2 (k2.set 1 _)
  have hG2 := ((HG.out.past (Within.off (g := w.heap.size + 1 + 1) (o := 1) (.slice a1 ds.length c1)) (by omega)).by hb2)
  have HG2 := Lib.hid hG2
  replace hbw := below_on hb2 hbw
  have hsz := hb2.size
  simp at hsz hF
  have HF := Lib.hid hF
  obtain ⟨a2, c2', rfl⟩ := hF.sl.sized
  clear c0 k0 c2 f2 hb1 hb2 HG hG2 hF
  have c1' := k1.cell
  have f1 := k1.free
  have c2 := k2.cell
  have f2 := k2.free
  have l1 := k1.lt
  have l2' := k2.lt
  go_wp2
  refine bodyPost_ret (v := .agg #[.int .i64 nets, .slice a1 ds.length c1, .slice a2 ps.length c2']) (by simp [results, Tryz.results6, go_sem, *]) rfl ⟨_, rfl, ⟨_, _, w.heap.size + 1 + 1 + 1, w1.heap.size, w1.heap.size, w2.heap.size, rfl, ?_, ?_, ⟨by omega, by simp; omega⟩, ⟨by omega, by simp⟩, .inl (Nat.le_refl _)⟩, ?_⟩
  · exact ((((HG2.out.past (Within.off _) (by omega)).past (Within.off _) (by omega)).past (Within.off _) (by omega)).past (Within.off _) (by omega))
  · exact ((((HF.out.past (Within.off _) (by omega)).past (Within.off _) (by omega)).past (Within.off _) (by omega)).past (Within.off _) (by omega))
  · repeat (first | (with_reducible exact hbw) | ((with_reducible refine Below.setCell ?_ ?_ _); rotate_left; focus (simp; try omega)))

set_option maxRecDepth 100000 in
set_option maxHeartbeats 2000000 in
theorem markNetlist_any (lo hi : Nat) (v : Value) (x : Nl) (k0 : Nat) (w : World) (h : OwnNl w lo hi v x) (hlw : hi ≤ w.heap.size) (hpn : ∀ d ∈ x.ds, d.pins.length ≤ 1048576) (hk : 0 < k0) (hk' : k0 + nsum x ≤ 1000000000) :
    Calls Tryz.prog 9 #[v, .int .i64 (k0 : Int)] w fun e w' => e = .returned (.int .i64 ((k0 + nsum x : Nat) : Int)) ∧ OwnNl w' lo hi v (markNl k0 x) ∧ Within lo hi w w' := by
  obtain ⟨s1, s2, l1, h1, l2, h2, rfl, hD, hP, q1, q2, q3⟩ := h
  obtain ⟨nets, ds, ps⟩ := x
  simp only [nsum, markNl] at hk' ⊢
  dsimp only at hD hP hpn ⊢
  have hd0 := dsum_nonneg ds
  obtain ⟨dn, hdn⟩ : ∃ dn : Nat, dsum ds = (dn : Int) := ⟨(dsum ds).toNat, by omega⟩
  have HMD := Lib.hid (fun w h => markDeviceS_any l1 h1 s1 ds k0 w h hpn (by omega) (by omega))
  rw [hdn] at HMD hk' ⊢
  simp only [Int.toNat_natCast] at hk' ⊢
  have HMP := Lib.hid (fun w h hlw => markPortS_any l2 h2 s2 ps (k0 + dn) w h hlw (by omega) (by omega))
  have HD := Lib.hid hD
  have HP := Lib.hid hP
  obtain ⟨a, c, rfl⟩ := hD.sl.sized
  obtain ⟨a', c', rfl⟩ := hP.sl.sized
  obtain ⟨T, hT⟩ : ∃ T : Nat, k0 + dn + 2 * ps.length = T := ⟨_, rfl⟩
  have hT' : k0 + (dn + 2 * ps.length) = T := by omega
  rw [hT] at HMP
  rw [hT']
  have hcast : ((k0 : Int) + (dn : Int)) = ((k0 + dn : Nat) : Int) := by omega
  rw [hcast] at HMD
  obtain ⟨m, hm⟩ : ∃ m : Nat, k0 + dn = m := ⟨_, rfl⟩
  rw [hm] at HMD HMP ⊢
  clear hD hP hdn hT hT' hd0 hcast hm
  go_enter Tryz.func9, Tryz.ntmps9
  go_wp2_with fail
  refine (HMD.out _ (HD.out.by (by ((repeat (first | (with_reducible exact Below.refl _ _) | (with_reducible refine below_drewN ?_ _) | (with_reducible refine Below.drew ?_) | (with_reducible refine below_al ?_ _) | (with_reducible refine below_on (by assumption) ?_) | ((with_reducible refine Below.setCell ?_ ?_ _); rotate_left; focus (first | omega | (simp; done) | (simp; omega))) | (with_reducible assumption))); done)))).mono ?_
  rintro e w1 ⟨rfl, hD1, hw1⟩
  have k0_ : Blk w1 w.heap.size #[.int .i64 nets, .slice a ds.length c, .slice a' ps.length c'] 30 := hw1.blk (Blk.new _ rfl) (by omega)
  have hWt : Within lo hi w w1 := ((Within.refl lo hi w).alloc _).on (hw1.sub q1.1 q1.2)
  have hP1 := (HP.out.by ((Below.refl _ w).alloc (Nat.le_refl _) (.cells #[.int .i64 nets, .slice a ds.length c, .slice a' ps.length c'] 30))).past hw1 (by omega)
  have c0 := k0_.cell
  have hsz := hWt.size
  have HD1 := Lib.hid hD1
  have HP1 := Lib.hid hP1
  clear hD1 hP1 hw1
  go_wp2_with fail
  refine (HMP.out _ HP1.out (by omega)).mono ?_
  rintro e w2 ⟨rfl, hP2, hw2⟩
  have hD2 := HD1.out.past hw2 (by omega)
  go_wp2
  go_ret
  exact ⟨rfl, ⟨_, _, l1, h1, l2, h2, by rfl, hD2, hP2, q1, q2, q3⟩, hWt.on (hw2.sub q2.1 q2.2)⟩

set_option maxRecDepth 100000 in
set_option maxHeartbeats 2000000 in
theorem heldNetlist_any (v : Value) (x : Nl) (k0 : Nat) (w : World) (h : NlV w v (markNl k0 x)) (hpn : ∀ d ∈ x.ds, d.pins.length ≤ 1048576) (hk : 0 < k0) (hk' : k0 + nsum x ≤ 1000000000) :
    Calls Tryz.prog 10 #[v, .int .i64 (k0 : Int)] w fun e w' => e = .returned (.int .i64 ((k0 + nsum x : Nat) : Int)) ∧ Below w.heap.size w w' := by
  obtain ⟨s1, s2, rfl, hD, hP⟩ := h
  obtain ⟨nets, ds, ps⟩ := x
  simp only [nsum, markNl] at hk' hD hP ⊢
  dsimp only at hD hP hpn ⊢
  have hd0 := dsum_nonneg ds
  obtain ⟨dn, hdn⟩ : ∃ dn : Nat, dsum ds = (dn : Int) := ⟨(dsum ds).toNat, by omega⟩
  have HMD := Lib.hid (fun w h => heldDeviceS_any s1 ds k0 w h hpn (by omega) (by omega))
  rw [hdn] at HMD hk' hP ⊢
  simp only [Int.toNat_natCast] at hk' hP ⊢
  have HMP := Lib.hid (fun w h => heldPortS_any s2 ps.length (k0 + dn) w h (by omega) (by omega))
  have HD := Lib.hid hD
  have HP := Lib.hid hP
  obtain ⟨a, c, rfl⟩ := hD.sized
  obtain ⟨a', c', rfl⟩ := hP.sized
  rw [length_markDs, length_markPs] at *
  obtain ⟨T, hT⟩ : ∃ T : Nat, k0 + dn + 2 * ps.length = T := ⟨_, rfl⟩
  have hT' : k0 + (dn + 2 * ps.length) = T := by omega
  rw [hT] at HMP
  rw [hT']
  have hcast : ((k0 : Int) + (dn : Int)) = ((k0 + dn : Nat) : Int) := by omega
  rw [hcast] at HMD
  obtain ⟨m, hm⟩ : ∃ m : Nat, k0 + dn = m := ⟨_, rfl⟩
  rw [hm] at HMD HMP HP
  have hm0 : 0 ≤ (m : Int) := by omega
  have hT0 : 0 ≤ (T : Int) := by omega
  clear hD hP hdn hT hT' hd0 hcast hm
  go_enter Tryz.func10, Tryz.ntmps10
  go_wp2_with fail
  refine (HMD.out _ (HD.out.by (by ((repeat (first | (with_reducible exact Below.refl _ _) | (with_reducible refine below_drewN ?_ _) | (with_reducible refine Below.drew ?_) | (with_reducible refine below_al ?_ _) | (with_reducible refine below_on (by assumption) ?_) | ((with_reducible refine Below.setCell ?_ ?_ _); rotate_left; focus (first | omega | (simp; done) | (simp; omega))) | (with_reducible assumption))); done)))).mono ?_
  rintro e w1 ⟨rfl, nd, rfl⟩
  go_wp2_with fail
  refine (HMP.out _ (HP.out.by (by ((repeat (first | (with_reducible exact Below.refl _ _) | (with_reducible refine below_drewN ?_ _) | (with_reducible refine Below.drew ?_) | (with_reducible refine below_al ?_ _) | (with_reducible refine below_on (by assumption) ?_) | ((with_reducible refine Below.setCell ?_ ?_ _); rotate_left; focus (first | omega | (simp; done) | (simp; omega))) | (with_reducible assumption))); done)))).mono ?_
  rintro e w2 ⟨rfl, hb2⟩
  go_wp2
  go_ret
  exact ⟨rfl, (by ((repeat (first | (with_reducible exact Below.refl _ _) | (with_reducible refine below_drewN ?_ _) | (with_reducible refine Below.drew ?_) | (with_reducible refine below_al ?_ _) | (with_reducible refine below_on (by assumption) ?_) | ((with_reducible refine Below.setCell ?_ ?_ _); rotate_left; focus (first | omega | (simp; done) | (simp; omega))) | (with_reducible assumption))); done))⟩
end Go.Proofs.YtjanifoipbmkhaaGreat

/- What a netlist's marks come to. -/
namespace Go.Proofs.YtjanifoipbmkhaaGreat
open Go.RowKit
set_option linter.unusedVariables false
theorem dsum_pins (ds : List Dv) : dsum ds = 3 * (ds.length : Int) + pinsAll ds := by
  induction ds with
  | nil => simp [dsum, pinsAll]
  | cons d ds ih => simp only [dsum, pinsAll, ih, List.length_cons]; omega
theorem nsum_le {x : Nl} (h : nlSize x.ds x.ps ≤ 1048576) : nsum x ≤ 4000000 := by
  unfold nlSize at h
  have h1 := pinsAll_nonneg x.ds
  have h2 := namesAll_nonneg x.ps
  have h3 := dsum_pins x.ds
  unfold nsum
  omega
theorem dsum_filter (p : Dv → Bool) (ds : List Dv) : dsum (ds.filter p) ≤ dsum ds := by
  induction ds with
  | nil => simp [dsum]
  | cons d ds ih =>
    have := dsum_nonneg ds
    cases hp : p d with
    | true => simp only [List.filter_cons, hp, dsum, if_true]; omega
    | false => simp only [List.filter_cons, hp, dsum, Bool.false_eq_true, if_false]; omega
end Go.Proofs.YtjanifoipbmkhaaGreat
