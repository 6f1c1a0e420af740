/- The signature of a device: the plain part. -/
import Derived.Test.YtpaiiaajbojmnaaGreatIsCol
import Derived.Test.YtpaiiaajbojmnaaGreatCmps
import Derived.Test.YtpaiiaajbojmnaaGreatOrdB
import Derived.Test.YtpaiiaajbojmnaaGreatIntB
import Derived.BigRegion
import Derived.Deep.DeepCutAuto
import Derived.Deep.RegionHeld3
import Derived.Test.YtpaiiaajbojmnaaGreatNSigs
namespace Go.Proofs.YtpaiiaajbojmnaaGreat
open Go.RowKit
set_option linter.unusedVariables false
set_option linter.unusedSimpArgs false

def dsgT (a b : Int) : List Int := [min a b, max a b]
/-- The signature of device d of color ck among nets of the colors cn. -/
def dsgL (d : Dv) (ck : Int) (cn : List Int) : List Int := (if d.kind = 2 then [ck] else [ck, nmOf cn (gateOf d.pins)]) ++ dsgT (nmOf cn (curP d.pins)) (nmOf cn (curQ d.pins))
theorem dsgL_r {d : Dv} {p q : Int} (h : d.kind = 2) (hp : d.pins = [p, q]) (ck : Int) (cn : List Int) : dsgL d ck cn = [ck] ++ dsgT (nmOf cn p) (nmOf cn q) := by simp [dsgL, h, hp, curP, curQ]
theorem dsgL_m {d : Dv} {g p q : Int} (h : ¬ d.kind = 2) (hp : d.pins = [g, p, q]) (ck : Int) (cn : List Int) : dsgL d ck cn = [ck, nmOf cn g] ++ dsgT (nmOf cn p) (nmOf cn q) := by simp [dsgL, h, hp, curP, curQ, gateOf]
/-- The signature of device k, none where there is none. -/
def dsgS (x : Nl) (c : List Int × List Int) (k : Int) : List Int :=
  if coB x c = true ∧ 0 ≤ k ∧ k < x.ds.length then (match x.ds[k.toNat]? with | some d => dsgL d (nmOf c.2 k) c.1 | none => []) else []
theorem length_dsgL (d : Dv) (ck : Int) (cn : List Int) : (dsgL d ck cn).length ≤ 4 := by unfold dsgL dsgT; split <;> simp
theorem length_dsgS (x : Nl) (c : List Int × List Int) (k : Int) : (dsgS x c k).length ≤ 4 := by
  unfold dsgS
  split
  · split
    · exact length_dsgL _ _ _
    · simp
  · simp
/-- The colors' cells. -/
theorem IntSl.nm {w : World} {sv : Value} {zs : List Int} (h : IntSl w sv zs) (h0 : 0 < zs.length) : ∃ b off cap, sv = .slice (some ⟨b, off, none⟩) zs.length cap ∧ b < w.heap.size ∧ ∀ k : Nat, k < zs.length → w.cell? ⟨b, off + k, none⟩ = some (.int .i64 (nmOf zs k)) := by
  rcases h with ⟨_, _, _, h2⟩ | ⟨b, off, cap, hsv, h2, h3, h4⟩
  · rw [h2] at h0; simp at h0
  have hc : ∀ k : Nat, k < zs.length → w.cell? ⟨b, off + k, none⟩ = some (.int .i64 (nmOf zs k)) := by
    intro k hk
    refine h4 k _ ?_
    simp [nmOf, List.getD_eq_getElem?_getD, List.getElem?_eq_getElem hk]
  refine ⟨b, off, cap, hsv, ?_, hc⟩
  rcases Nat.lt_or_ge b w.heap.size with h' | h'
  · exact h'
  · have := hc 0 h0
    simp [World.cell?, Array.getElem?_eq_none h'] at this
end Go.Proofs.YtpaiiaajbojmnaaGreat

/- The signature of a device: the reference's. -/
namespace Go.Proofs.YtpaiiaajbojmnaaGreat
open Go.RowKit
set_option linter.unusedVariables false
set_option linter.unusedSimpArgs false

set_option maxRecDepth 100000 in
set_option maxHeartbeats 4000000 in
theorem l29Dev_r (x : Nl) (cn cd : List Int) (k : Nat) (d : Dv) (p q : Nat) (v : Value) (sn sd : Value) (w : World) (h : NlV w v x) (hn : IntSl w sn cn) (hd : IntSl w sd cd) (hx : x.ds[k]? = some d) (hk : k < cd.length) (hk2 : d.kind = 2) (hpins : d.pins = [(p : Int), (q : Int)]) (hp : p < cn.length) (hq : q < cn.length) (hl : x.ds.length ≤ 24) (hcn : cn.length ≤ 24) :
    Calls Tryz.prog 96 #[v, .agg #[sn, sd], .int .i64 k] w fun e w' => ∃ v', e = .returned v' ∧ OwnR w' w.heap.size w'.heap.size v' ([nmOf cd k] ++ dsgT (nmOf cn p) (nmOf cn q)) ∧ Below w.heap.size w w' := by
  obtain ⟨s1, s2, rfl, hD, hP⟩ := h
  obtain ⟨a2, c2, rfl⟩ := hP.sized
  have hkl : k < x.ds.length := (List.getElem?_eq_some_iff.1 hx).1
  rcases hD with ⟨_, _, _, h2⟩ | ⟨b, off, cap, rfl, h2, h3, h4⟩
  · rw [h2] at hkl; simp at hkl
  obtain ⟨sv, e1, e2, e3, e4, hS⟩ := h4 k d hx
  rw [hpins] at hS
  obtain ⟨pb, po, pc, rfl, p0, p1, lp⟩ := hS.two
  obtain ⟨nb, no, nc, rfl, ln, cN⟩ := hn.nm (by omega)
  obtain ⟨db, eo, dc, rfl, ld, cD⟩ := hd.nm (by omega)
  have f1 := cN p hp
  have f2 := cN q hq
  have f3 := cD k hk
  rw [hk2] at e1
  have lb := lt_of_cell e1
  dsimp only at lb
  have i1 : (0 : Int) ≤ (k : Int) := by omega
  have i2 : (k : Int) < (x.ds.length : Int) := by omega
  have i3 : (k : Int) < (cd.length : Int) := by omega
  have i4 : (0 : Int) ≤ (p : Int) := by omega
  have i5 : (p : Int) < (cn.length : Int) := by omega
  have i6 : (0 : Int) ≤ (q : Int) := by omega
  have i7 : (q : Int) < (cn.length : Int) := by omega
  have HF := Lib.hid (fun w => l28First_any 2 d.wd d.len (some ⟨pb, po, none⟩) 0 pc (by omega) w)
  unfold dsgT
  generalize nmOf cn (p : Int) = A at *
  generalize nmOf cn (q : Int) = B at *
  generalize nmOf cd (k : Int) = C at *
  generalize x.ds.length = n1 at *
  generalize x.ps.length = n2 at *
  generalize cn.length = n3 at *
  generalize cd.length = n4 at *
  clear cN cD hn hd hS h4 hP hx hpins h2 h3 hkl hk2
  go_enter Tryz.func96, Tryz.ntmps96
  go_upto_region 1 with fail
  go_cut [7] (fun s7 wx => s7 = .pointer (some ⟨w.heap.size + 1 + 1, 0, none⟩) ∧ Blk wx w.heap.size #[.int .i64 x.nets, .slice (some ⟨b, off, none⟩) n1 cap, .slice a2 n2 c2] 27 ∧ Blk wx (w.heap.size + 1) #[.slice (some ⟨nb, no, none⟩) n3 nc, .slice (some ⟨db, eo, none⟩) n4 dc] 30 ∧ Blk wx (w.heap.size + 1 + 1) #[.int .i64 2, .slice (some ⟨pb, po, none⟩) 2 pc, .int .i64 d.wd, .int .i64 d.len] 62 ∧ Below w.heap.size w wx)
  case first =>
    go_wp2_with fail
    go_meet
    exact ⟨rfl, (by ((repeat (first | (with_reducible assumption) | (with_reducible refine Blk.drewN ?_ _) | (with_reducible refine Blk.drew ?_) | ((with_reducible refine Blk.new _ ?_); focus (first | omega | (simp; done) | (simp; omega))) | (with_reducible refine Blk.past ?_ _) | ((with_reducible refine Blk.apart ?_ _ _ _ ?_); rotate_left; focus (first | omega | (simp; done) | (simp; omega))) | (with_reducible refine Blk.by (by assumption) ?_))); done)), (by ((repeat (first | (with_reducible assumption) | (with_reducible refine Blk.drewN ?_ _) | (with_reducible refine Blk.drew ?_) | ((with_reducible refine Blk.new _ ?_); focus (first | omega | (simp; done) | (simp; omega))) | (with_reducible refine Blk.past ?_ _) | ((with_reducible refine Blk.apart ?_ _ _ _ ?_); rotate_left; focus (first | omega | (simp; done) | (simp; omega))) | (with_reducible refine Blk.by (by assumption) ?_))); done)), (by ((repeat (first | (with_reducible assumption) | (with_reducible refine Blk.drewN ?_ _) | (with_reducible refine Blk.drew ?_) | ((with_reducible refine Blk.new _ ?_); focus (first | omega | (simp; done) | (simp; omega))) | (with_reducible refine Blk.past ?_ _) | ((with_reducible refine Blk.apart ?_ _ _ _ ?_); rotate_left; focus (first | omega | (simp; done) | (simp; omega))) | (with_reducible refine Blk.by (by assumption) ?_))); done)), (by ((repeat (first | (with_reducible exact Below.refl _ _) | (with_reducible refine below_drewN ?_ _) | (with_reducible refine Below.drew ?_) | (with_reducible refine below_al ?_ _) | (with_reducible refine below_on (by assumption) ?_) | ((with_reducible refine Below.setCell ?_ ?_ _); rotate_left; focus (first | omega | (simp; done) | (simp; omega))) | (with_reducible assumption))); done))⟩
  case rest =>
    obtain ⟨rfl, kA, kB, kD, hW⟩ := hcut
    have g1 := cell_by' hW f1
    have g2 := cell_by' hW f2
    have g3 := cell_by' hW f3
    have r0 := cell_by' hW p0
    have r1 := cell_by' hW p1
    have lD := kD.lt
    have qB := kB.cell
    have qD := kD.cell
    have hsz := hW.size
    have hl1 : nb < wc.heap.size := by omega
    have hl2 : db < wc.heap.size := by omega
    have hl3 : pb < wc.heap.size := by omega
    go_wp2_with fail
    refine (HF.out _).mono ?_
    rintro e w1 ⟨rfl, hb1⟩
    have HB1 := Lib.hid (BldI.lit (zs := [C]) (lo := w.heap.size) (hi := wc.heap.size + 1) (Blk.by hb1 (Blk.new (w := wc) (cs := #[.int .i64 C]) (T := 2) _ rfl)) rfl (by simp) hsz (by omega) (by have := hb1.size; simpa using this))
    have hW1 : Below w.heap.size w w1 := below_on hb1 (below_al hW _)
    have m1 := cell_by' hW1 f1
    have m2 := cell_by' hW1 f2
    have t0 := cell_by' hW1 p0
    have t1 := cell_by' hW1 p1
    have kB1 := Blk.by hb1 (kB.past _)
    have kD1 := Blk.by hb1 (kD.past _)
    have qB1 := kB1.cell
    have qD1 := kD1.cell
    have hs1 := hb1.size
    simp only [World.size_alloc] at hs1
    clear hb1 kA kB kD hW g1 g2 g3 r0 r1 qB qD lD
    go_wp2
    go_quiet (fail)
    go_wp2_with (refine list_pushI (by rfl) _ _ (by rfl) w.heap.size (wc.heap.size + 1) (.slice (some ⟨wc.heap.size, 0, none⟩) 1 1) [C] [min A B, max A B] (by rfl) (HB1.out.by (by ((repeat (first | (with_reducible exact Below.refl _ _) | (with_reducible refine below_drewN ?_ _) | (with_reducible refine Below.drew ?_) | (with_reducible refine below_al ?_ _) | (with_reducible refine below_on (by assumption) ?_) | ((with_reducible refine Below.setCell ?_ ?_ _); rotate_left; focus (first | omega | (simp; done) | (simp; omega))) | (with_reducible assumption))); done))) w1.heap.size 2 _ (by rfl) (by rfl) (by omega) (Blk.new _ rfl) (by simp [icells] <;> omega) (by omega) (by simp) ?_; intro a3 c3 w3 hB3 hw3; have HB3 := Lib.hid hB3; have hW3 : Below w.heap.size w w3 := hw3.below (by first | exact (by ((repeat (first | (with_reducible exact Below.refl _ _) | (with_reducible refine below_drewN ?_ _) | (with_reducible refine Below.drew ?_) | (with_reducible refine below_al ?_ _) | (with_reducible refine below_on (by assumption) ?_) | ((with_reducible refine Below.setCell ?_ ?_ _); rotate_left; focus (first | omega | (simp; done) | (simp; omega))) | (with_reducible assumption))); done))) (by omega); clear hB3)
    all_goals
      go_ret
      exact ⟨_, rfl, HB3.out.own, hW3⟩
set_option maxRecDepth 100000 in
set_option maxHeartbeats 4000000 in
theorem l29Dev_m (x : Nl) (cn cd : List Int) (k : Nat) (d : Dv) (g p q : Nat) (v : Value) (sn sd : Value) (w : World) (h : NlV w v x) (hn : IntSl w sn cn) (hd : IntSl w sd cd) (hx : x.ds[k]? = some d) (hk : k < cd.length) (hk2 : ¬ d.kind = 2) (hpins : d.pins = [(g : Int), (p : Int), (q : Int)]) (hg : g < cn.length) (hp : p < cn.length) (hq : q < cn.length) (hl : x.ds.length ≤ 24) (hcn : cn.length ≤ 24) :
    Calls Tryz.prog 96 #[v, .agg #[sn, sd], .int .i64 k] w fun e w' => ∃ v', e = .returned v' ∧ OwnR w' w.heap.size w'.heap.size v' ([nmOf cd k, nmOf cn g] ++ dsgT (nmOf cn p) (nmOf cn q)) ∧ Below w.heap.size w w' := by
  obtain ⟨s1, s2, rfl, hD, hP⟩ := h
  obtain ⟨a2, c2, rfl⟩ := hP.sized
  have hkl : k < x.ds.length := (List.getElem?_eq_some_iff.1 hx).1
  rcases hD with ⟨_, _, _, h2⟩ | ⟨b, off, cap, rfl, h2, h3, h4⟩
  · rw [h2] at hkl; simp at hkl
  obtain ⟨sv, e1, e2, e3, e4, hS⟩ := h4 k d hx
  rw [hpins] at hS
  obtain ⟨pb, po, pc, rfl, p0, p1, p2, lp⟩ := hS.three
  obtain ⟨nb, no, nc, rfl, ln, cN⟩ := hn.nm (by omega)
  obtain ⟨db, eo, dc, rfl, ld, cD⟩ := hd.nm (by omega)
  have f1 := cN p hp
  have f2 := cN q hq
  have f3 := cD k hk
  have f0 := cN g hg
  obtain ⟨K, hK⟩ : ∃ K, d.kind = K := ⟨_, rfl⟩
  rw [hK] at e1 hk2
  have hz : (K == 2) = false := by rw [beq_eq_false_iff_ne]; exact hk2
  have i8 : (0 : Int) ≤ (g : Int) := by omega
  have i9 : (g : Int) < (cn.length : Int) := by omega
  have lb := lt_of_cell e1
  dsimp only at lb
  have i1 : (0 : Int) ≤ (k : Int) := by omega
  have i2 : (k : Int) < (x.ds.length : Int) := by omega
  have i3 : (k : Int) < (cd.length : Int) := by omega
  have i4 : (0 : Int) ≤ (p : Int) := by omega
  have i5 : (p : Int) < (cn.length : Int) := by omega
  have i6 : (0 : Int) ≤ (q : Int) := by omega
  have i7 : (q : Int) < (cn.length : Int) := by omega
  have HF := Lib.hid (fun w => l28First_any K d.wd d.len (some ⟨pb, po, none⟩) 1 pc (by omega) w)
  unfold dsgT
  generalize nmOf cn (g : Int) = G at *
  generalize nmOf cn (p : Int) = A at *
  generalize nmOf cn (q : Int) = B at *
  generalize nmOf cd (k : Int) = C at *
  generalize x.ds.length = n1 at *
  generalize x.ps.length = n2 at *
  generalize cn.length = n3 at *
  generalize cd.length = n4 at *
  clear cN cD hn hd hS h4 hP hx hpins h2 h3 hkl hk2
  go_enter Tryz.func96, Tryz.ntmps96
  go_upto_region 1 with fail
  go_cut [7] (fun s7 wx => s7 = .pointer (some ⟨w.heap.size + 1 + 1, 0, none⟩) ∧ Blk wx w.heap.size #[.int .i64 x.nets, .slice (some ⟨b, off, none⟩) n1 cap, .slice a2 n2 c2] 27 ∧ Blk wx (w.heap.size + 1) #[.slice (some ⟨nb, no, none⟩) n3 nc, .slice (some ⟨db, eo, none⟩) n4 dc] 30 ∧ Blk wx (w.heap.size + 1 + 1) #[.int .i64 K, .slice (some ⟨pb, po, none⟩) 3 pc, .int .i64 d.wd, .int .i64 d.len] 62 ∧ Below w.heap.size w wx)
  case first =>
    go_wp2_with fail
    go_meet
    exact ⟨rfl, (by ((repeat (first | (with_reducible assumption) | (with_reducible refine Blk.drewN ?_ _) | (with_reducible refine Blk.drew ?_) | ((with_reducible refine Blk.new _ ?_); focus (first | omega | (simp; done) | (simp; omega))) | (with_reducible refine Blk.past ?_ _) | ((with_reducible refine Blk.apart ?_ _ _ _ ?_); rotate_left; focus (first | omega | (simp; done) | (simp; omega))) | (with_reducible refine Blk.by (by assumption) ?_))); done)), (by ((repeat (first | (with_reducible assumption) | (with_reducible refine Blk.drewN ?_ _) | (with_reducible refine Blk.drew ?_) | ((with_reducible refine Blk.new _ ?_); focus (first | omega | (simp; done) | (simp; omega))) | (with_reducible refine Blk.past ?_ _) | ((with_reducible refine Blk.apart ?_ _ _ _ ?_); rotate_left; focus (first | omega | (simp; done) | (simp; omega))) | (with_reducible refine Blk.by (by assumption) ?_))); done)), (by ((repeat (first | (with_reducible assumption) | (with_reducible refine Blk.drewN ?_ _) | (with_reducible refine Blk.drew ?_) | ((with_reducible refine Blk.new _ ?_); focus (first | omega | (simp; done) | (simp; omega))) | (with_reducible refine Blk.past ?_ _) | ((with_reducible refine Blk.apart ?_ _ _ _ ?_); rotate_left; focus (first | omega | (simp; done) | (simp; omega))) | (with_reducible refine Blk.by (by assumption) ?_))); done)), (by ((repeat (first | (with_reducible exact Below.refl _ _) | (with_reducible refine below_drewN ?_ _) | (with_reducible refine Below.drew ?_) | (with_reducible refine below_al ?_ _) | (with_reducible refine below_on (by assumption) ?_) | ((with_reducible refine Below.setCell ?_ ?_ _); rotate_left; focus (first | omega | (simp; done) | (simp; omega))) | (with_reducible assumption))); done))⟩
  case rest =>
    obtain ⟨rfl, kA, kB, kD, hW⟩ := hcut
    have g3 := cell_by' hW f3
    have lD := kD.lt
    have qB := kB.cell
    have hl2 : db < wc.heap.size := by omega
    obtain ⟨we, rfl⟩ : ∃ we, we = wc := ⟨_, rfl⟩
    go_upto_region 2 with fail
    go_cut [8] (fun s8 wx => ∃ e : Nat, s8 = .slice (some ⟨e, 0, none⟩) 1 1 ∧ (w.heap.size + 1 + 1 < e ∧ e < wx.heap.size) ∧ Hid (BldI wx e wx.heap.size (.slice (some ⟨e, 0, none⟩) 1 1) [C]) ∧ Blk wx (w.heap.size + 1) #[.slice (some ⟨nb, no, none⟩) n3 nc, .slice (some ⟨db, eo, none⟩) n4 dc] 30 ∧ Blk wx (w.heap.size + 1 + 1) #[.int .i64 K, .slice (some ⟨pb, po, none⟩) 3 pc, .int .i64 d.wd, .int .i64 d.len] 62 ∧ Below w.heap.size w wx)
    case first =>
      go_wp2_with fail
      go_meet
      exact ⟨we.heap.size, rfl, ⟨by omega, by simp⟩, Lib.hid (BldI.lit (zs := [C]) (Blk.new _ rfl) rfl (by simp) (Nat.le_refl _) (by simp) (Nat.le_refl _)), (by ((repeat (first | (with_reducible assumption) | (with_reducible refine Blk.drewN ?_ _) | (with_reducible refine Blk.drew ?_) | ((with_reducible refine Blk.new _ ?_); focus (first | omega | (simp; done) | (simp; omega))) | (with_reducible refine Blk.past ?_ _) | ((with_reducible refine Blk.apart ?_ _ _ _ ?_); rotate_left; focus (first | omega | (simp; done) | (simp; omega))) | (with_reducible refine Blk.by (by assumption) ?_))); done)), (by ((repeat (first | (with_reducible assumption) | (with_reducible refine Blk.drewN ?_ _) | (with_reducible refine Blk.drew ?_) | ((with_reducible refine Blk.new _ ?_); focus (first | omega | (simp; done) | (simp; omega))) | (with_reducible refine Blk.past ?_ _) | ((with_reducible refine Blk.apart ?_ _ _ _ ?_); rotate_left; focus (first | omega | (simp; done) | (simp; omega))) | (with_reducible refine Blk.by (by assumption) ?_))); done)), (by ((repeat (first | (with_reducible exact Below.refl _ _) | (with_reducible refine below_drewN ?_ _) | (with_reducible refine Below.drew ?_) | (with_reducible refine below_al ?_ _) | (with_reducible refine below_on (by assumption) ?_) | ((with_reducible refine Below.setCell ?_ ?_ _); rotate_left; focus (first | omega | (simp; done) | (simp; omega))) | (with_reducible assumption))); done))⟩
    case rest =>
      clear kA kB kD hW g3 lD qB hl2
      obtain ⟨e, rfl, ⟨he1, he2⟩, HBI, kB, kD, hW⟩ := hcut
      obtain ⟨wd, rfl⟩ : ∃ wd, wd = wc := ⟨_, rfl⟩
      have g0 := cell_by' hW f0
      have r0 := cell_by' hW p0
      have qB := kB.cell
      have qD := kD.cell
      have lD := kD.lt
      have hsz := hW.size
      have hl1 : nb < wd.heap.size := by omega
      have hl3 : pb < wd.heap.size := by omega
      go_wp2_with fail
      go_region_held3 (fun w' => w'.cell? ⟨w.heap.size + 1, 0, none⟩ = some (.slice (some ⟨nb, no, none⟩) n3 nc) ∧ w'.cell? ⟨w.heap.size + 1 + 1, 1, none⟩ = some (.slice (some ⟨pb, po, none⟩) 3 pc) ∧ w'.cell? ⟨pb, po, none⟩ = some (.int .i64 g) ∧ w'.cell? ⟨nb, no + g, none⟩ = some (.int .i64 G))
        (first | exact ⟨kB.cell 0, kD.cell 1, r0, g0⟩ | exact ⟨kB3.cell 0, kD3.cell 1, cell_by' hW3 p0, cell_by' hW3 f0⟩ | go_keep)
        (first | (refine step_pushI (by rfl) _ _ (by rfl) e wd.heap.size (.slice (some ⟨e, 0, none⟩) 1 1) [C] [G] (by rfl) (HBI.out.by (by ((repeat (first | (with_reducible exact Below.refl _ _) | (with_reducible refine below_drewN ?_ _) | (with_reducible refine Below.drew ?_) | (with_reducible refine below_al ?_ _) | (with_reducible refine below_on (by assumption) ?_) | ((with_reducible refine Below.setCell ?_ ?_ _); rotate_left; focus (first | omega | (simp; done) | (simp; omega))) | (with_reducible assumption))); done))) wd.heap.size 1 _ (by rfl) (by rfl) (by omega) (Blk.new _ rfl) (by rfl) (by omega) (by simp) ?_; intro a3 c3 w3 hB3 hw3; have HB3 := Lib.hid hB3; have kB3 : Blk w3 (w.heap.size + 1) #[.slice (some ⟨nb, no, none⟩) n3 nc, .slice (some ⟨db, eo, none⟩) n4 dc] 30 := hw3.blk (by ((repeat (first | (with_reducible assumption) | (with_reducible refine Blk.drewN ?_ _) | (with_reducible refine Blk.drew ?_) | ((with_reducible refine Blk.new _ ?_); focus (first | omega | (simp; done) | (simp; omega))) | (with_reducible refine Blk.past ?_ _) | ((with_reducible refine Blk.apart ?_ _ _ _ ?_); rotate_left; focus (first | omega | (simp; done) | (simp; omega))) | (with_reducible refine Blk.by (by assumption) ?_))); done)) (by omega); have kD3 : Blk w3 (w.heap.size + 1 + 1) #[.int .i64 K, .slice (some ⟨pb, po, none⟩) 3 pc, .int .i64 d.wd, .int .i64 d.len] 62 := hw3.blk (by ((repeat (first | (with_reducible assumption) | (with_reducible refine Blk.drewN ?_ _) | (with_reducible refine Blk.drew ?_) | ((with_reducible refine Blk.new _ ?_); focus (first | omega | (simp; done) | (simp; omega))) | (with_reducible refine Blk.past ?_ _) | ((with_reducible refine Blk.apart ?_ _ _ _ ?_); rotate_left; focus (first | omega | (simp; done) | (simp; omega))) | (with_reducible refine Blk.by (by assumption) ?_))); done)) (by omega); have hW3 : Below w.heap.size w w3 := hw3.below (by ((repeat (first | (with_reducible exact Below.refl _ _) | (with_reducible refine below_drewN ?_ _) | (with_reducible refine Below.drew ?_) | (with_reducible refine below_al ?_ _) | (with_reducible refine below_on (by assumption) ?_) | ((with_reducible refine Below.setCell ?_ ?_ _); rotate_left; focus (first | omega | (simp; done) | (simp; omega))) | (with_reducible assumption))); done)) (by omega); clear hB3))
      have qD3 := kD3.cell
      have lD3 := kD3.lt
      have hs3 := hw3.size
      clear qB qD lD kB kD g0 r0
      go_wp2_with fail
      refine (HF.out _).mono ?_
      rintro e1 w1 ⟨rfl, hb1⟩
      have HB1 := Lib.hid (HB3.out.by hb1)
      have hW1 : Below w.heap.size w w1 := below_on hb1 hW3
      have m1 := cell_by' hW1 f1
      have m2 := cell_by' hW1 f2
      have t1 := cell_by' hW1 p1
      have t2 := cell_by' hW1 p2
      have kB1 := Blk.by hb1 kB3
      have kD1 := Blk.by hb1 kD3
      have qB1 := kB1.cell
      have qD1 := kD1.cell
      have hs1 := hb1.size
      have h31 : e ≤ w3.heap.size := by simp at hs3; omega
      obtain ⟨hi, hhi⟩ : ∃ hi, w3.heap.size = hi := ⟨_, rfl⟩
      have HB2 := Lib.hid (hhi ▸ HB1.out)
      rw [hhi] at h31
      clear hb1 kB3 kD3 hW3 qD3 lD3 hs3 hs1 HB3 HB1 hw3 hhi hW
      go_wp2
      go_quiet (fail)
      go_wp2_with (refine list_pushI (by rfl) _ _ (by rfl) e hi (.slice a3 2 c3) [C, G] [min A B, max A B] (by rfl) (HB2.out.by (by ((repeat (first | (with_reducible exact Below.refl _ _) | (with_reducible refine below_drewN ?_ _) | (with_reducible refine Below.drew ?_) | (with_reducible refine below_al ?_ _) | (with_reducible refine below_on (by assumption) ?_) | ((with_reducible refine Below.setCell ?_ ?_ _); rotate_left; focus (first | omega | (simp; done) | (simp; omega))) | (with_reducible assumption))); done))) w1.heap.size 2 _ (by rfl) (by rfl) (by omega) (Blk.new _ rfl) (by simp [icells] <;> omega) (by omega) (by simp) ?_; intro a4 c4 w4 hB4 hw4; have HB4 := Lib.hid hB4; have hW4 : Below w.heap.size w w4 := hw4.below (by first | exact (by ((repeat (first | (with_reducible exact Below.refl _ _) | (with_reducible refine below_drewN ?_ _) | (with_reducible refine Below.drew ?_) | (with_reducible refine below_al ?_ _) | (with_reducible refine below_on (by assumption) ?_) | ((with_reducible refine Below.setCell ?_ ?_ _); rotate_left; focus (first | omega | (simp; done) | (simp; omega))) | (with_reducible assumption))); done))) (by omega); clear hB4)
      all_goals
        go_ret
        exact ⟨_, rfl, OwnR.wide' HB4.out.own (by omega) (Nat.le_refl _), hW4⟩

theorem l29Device_any (x : Nl) (c : List Int × List Int) (k : Nat) (d : Dv) (v u : Value) (w : World) (h : NlV w v x) (hc : CoV w u c) (hx : x.ds[k]? = some d) (hk : k < c.2.length) (hs : Shp d) (hp : ∀ p ∈ d.pins, 0 ≤ p ∧ p < c.1.length) (hl : x.ds.length ≤ 24) (hcn : c.1.length ≤ 24) :
    Calls Tryz.prog 96 #[v, u, .int .i64 k] w fun e w' => ∃ v', e = .returned v' ∧ OwnR w' w.heap.size w'.heap.size v' (dsgL d (nmOf c.2 k) c.1) ∧ Below w.heap.size w w' := by
  obtain ⟨s1, s2, rfl, hc1, hc2⟩ := hc
  rcases hs with ⟨k2, p, q, e⟩ | ⟨k2, g, p, q, e⟩
  · rw [dsgL_r k2 e]
    have h1 := hp p (by rw [e]; simp)
    have h2 := hp q (by rw [e]; simp)
    obtain ⟨p', rfl⟩ : ∃ p' : Nat, p = p' := ⟨p.toNat, by omega⟩
    obtain ⟨q', rfl⟩ : ∃ q' : Nat, q = q' := ⟨q.toNat, by omega⟩
    exact l29Dev_r x c.1 c.2 k d p' q' v s1 s2 w h hc1 hc2 hx hk k2 e (by omega) (by omega) hl hcn
  · have hk2 : ¬ d.kind = 2 := by omega
    rw [dsgL_m hk2 e]
    have h0 := hp g (by rw [e]; simp)
    have h1 := hp p (by rw [e]; simp)
    have h2 := hp q (by rw [e]; simp)
    obtain ⟨g', rfl⟩ : ∃ g' : Nat, g = g' := ⟨g.toNat, by omega⟩
    obtain ⟨p', rfl⟩ : ∃ p' : Nat, p = p' := ⟨p.toNat, by omega⟩
    obtain ⟨q', rfl⟩ : ∃ q' : Nat, q = q' := ⟨q.toNat, by omega⟩
    exact l29Dev_m x c.1 c.2 k d g' p' q' v s1 s2 w h hc1 hc2 hx hk hk2 e (by omega) (by omega) (by omega) hl hcn
end Go.Proofs.YtpaiiaajbojmnaaGreat

/- The signature of a device: the program's. -/
namespace Go.Proofs.YtpaiiaajbojmnaaGreat
open Go.RowKit
set_option linter.unusedVariables false
set_option linter.unusedSimpArgs false

set_option maxRecDepth 100000 in
set_option maxHeartbeats 8000000 in
theorem dsgDev_r (x : Nl) (cn cd : List Int) (k : Nat) (d : Dv) (p q : Nat) (v : Value) (sn sd : Value) (w : World) (h : NlV w v x) (hn : IntSl w sn cn) (hd : IntSl w sd cd) (hx : x.ds[k]? = some d) (hk : k < cd.length) (hk2 : d.kind = 2) (hpins : d.pins = [(p : Int), (q : Int)]) (hp : p < cn.length) (hq : q < cn.length) (hl : x.ds.length ≤ 24) (hcn : cn.length ≤ 24) :
    Calls Tryz.prog 27 #[v, .agg #[sn, sd], .int .i64 k] w fun e w' => ∃ v', e = .returned v' ∧ OwnR w' w.heap.size w'.heap.size v' ([nmOf cd k] ++ dsgT (nmOf cn p) (nmOf cn q)) ∧ Below w.heap.size w w' := by
  obtain ⟨s1, s2, rfl, hD, hP⟩ := h
  obtain ⟨a2, c2, rfl⟩ := hP.sized
  have hkl : k < x.ds.length := (List.getElem?_eq_some_iff.1 hx).1
  rcases hD with ⟨_, _, _, h2⟩ | ⟨b, off, cap, rfl, h2, h3, h4⟩
  · rw [h2] at hkl; simp at hkl
  obtain ⟨sv, e1, e2, e3, e4, hS⟩ := h4 k d hx
  rw [hpins] at hS
  obtain ⟨pb, po, pc, rfl, p0, p1, lp⟩ := hS.two
  obtain ⟨nb, no, nc, rfl, ln, cN⟩ := hn.nm (by omega)
  obtain ⟨db, eo, dc, rfl, ld, cD⟩ := hd.nm (by omega)
  have f1 := cN p hp
  have f2 := cN q hq
  have f3 := cD k hk
  rw [hk2] at e1
  have lb := lt_of_cell e1
  dsimp only at lb
  have i1 : (0 : Int) ≤ (k : Int) := by omega
  have i2 : (k : Int) < (x.ds.length : Int) := by omega
  have i3 : (k : Int) < (cd.length : Int) := by omega
  have i4 : (0 : Int) ≤ (p : Int) := by omega
  have i5 : (p : Int) < (cn.length : Int) := by omega
  have i6 : (0 : Int) ≤ (q : Int) := by omega
  have i7 : (q : Int) < (cn.length : Int) := by omega
  have HF := Lib.hid (fun w h => currentPins_any ⟨2, [(p : Int), (q : Int)], d.wd, d.len⟩ (.slice (some ⟨pb, po, none⟩) 2 pc) w h (.inl ⟨rfl, _, _, rfl⟩))
  simp only [curP, curQ] at HF
  have HS := Lib.hid hS
  unfold dsgT
  generalize nmOf cn (p : Int) = A at *
  generalize nmOf cn (q : Int) = B at *
  generalize nmOf cd (k : Int) = C at *
  generalize x.ds.length = n1 at *
  generalize x.ps.length = n2 at *
  generalize cn.length = n3 at *
  generalize cd.length = n4 at *
  clear cN cD hn hd hS h4 hP hx hpins h2 h3 hkl hk2
  go_enter Tryz.func27, Tryz.ntmps27
  go_upto_region 0 with fail
  go_cut [3, 4] (fun s3 s4 wx => s3 = .pointer (some ⟨w.heap.size, 0, none⟩) ∧ s4 = .pointer (some ⟨w.heap.size + 1, 0, none⟩) ∧ Blk wx w.heap.size #[.int .i64 x.nets, .slice (some ⟨b, off, none⟩) n1 cap, .slice a2 n2 c2] 27 ∧ Blk wx (w.heap.size + 1) #[.slice (some ⟨nb, no, none⟩) n3 nc, .slice (some ⟨db, eo, none⟩) n4 dc] 30 ∧ Below w.heap.size w wx)
  case first =>
    go_wp2_with fail
    go_meet
    exact ⟨rfl, rfl, (by ((repeat (first | (with_reducible assumption) | (with_reducible refine Blk.drewN ?_ _) | (with_reducible refine Blk.drew ?_) | ((with_reducible refine Blk.new _ ?_); focus (first | omega | (simp; done) | (simp; omega))) | (with_reducible refine Blk.past ?_ _) | ((with_reducible refine Blk.apart ?_ _ _ _ ?_); rotate_left; focus (first | omega | (simp; done) | (simp; omega))) | (with_reducible refine Blk.by (by assumption) ?_))); done)), (by ((repeat (first | (with_reducible assumption) | (with_reducible refine Blk.drewN ?_ _) | (with_reducible refine Blk.drew ?_) | ((with_reducible refine Blk.new _ ?_); focus (first | omega | (simp; done) | (simp; omega))) | (with_reducible refine Blk.past ?_ _) | ((with_reducible refine Blk.apart ?_ _ _ _ ?_); rotate_left; focus (first | omega | (simp; done) | (simp; omega))) | (with_reducible refine Blk.by (by assumption) ?_))); done)), (by ((repeat (first | (with_reducible exact Below.refl _ _) | (with_reducible refine below_drewN ?_ _) | (with_reducible refine Below.drew ?_) | (with_reducible refine below_al ?_ _) | (with_reducible refine below_on (by assumption) ?_) | ((with_reducible refine Below.setCell ?_ ?_ _); rotate_left; focus (first | omega | (simp; done) | (simp; omega))) | (with_reducible assumption))); done))⟩
  case rest =>
    obtain ⟨rfl, rfl, kA, kB, hW⟩ := hcut
    obtain ⟨wb, rfl⟩ : ∃ wb, wb = wc := ⟨_, rfl⟩
    have g1 := cell_by' hW e1
    have g2 := cell_by' hW e2
    have g3 := cell_by' hW e3
    have g4 := cell_by' hW e4
    have g5 := cell_by' hW f3
    have qA := kA.cell 1
    have qB := kB.cell 1
    have lB := kB.lt
    have hl1 : b < wb.heap.size := by omega
    have hl2 : db < wb.heap.size := by omega
    have hl3 : w.heap.size < wb.heap.size := by omega
    have ha1 : b ≠ wb.heap.size ∧ b ≠ wb.heap.size + 1 := by omega
    have ha2 : db ≠ wb.heap.size ∧ db ≠ wb.heap.size + 1 := by omega
    have ha3 : w.heap.size ≠ wb.heap.size ∧ w.heap.size ≠ wb.heap.size + 1 := by omega
    have ha4 : w.heap.size + 1 ≠ wb.heap.size ∧ w.heap.size + 1 ≠ wb.heap.size + 1 := by omega
    go_upto_region 1 with fail
    go_cut [7, 8] (fun s7 s8 wx => ∃ D e : Nat, s7 = .pointer (some ⟨D, 0, none⟩) ∧ s8 = .slice (some ⟨e, 0, none⟩) 1 1 ∧ (w.heap.size + 1 < D ∧ w.heap.size + 1 < e ∧ e < wx.heap.size ∧ D ≠ e) ∧ Hid (BldI wx e (e + 1) (.slice (some ⟨e, 0, none⟩) 1 1) [C]) ∧ Blk wx (w.heap.size + 1) #[.slice (some ⟨nb, no, none⟩) n3 nc, .slice (some ⟨db, eo, none⟩) n4 dc] 30 ∧ Blk wx D #[.int .i64 2, .slice (some ⟨pb, po, none⟩) 2 pc, .int .i64 d.wd, .int .i64 d.len] 62 ∧ Below w.heap.size w wx)
    case first =>
      go_region_held3 (fun w' => w'.cell? ⟨w.heap.size, 1, none⟩ = some (.slice (some ⟨b, off, none⟩) n1 cap) ∧ w'.cell? ⟨w.heap.size + 1, 1, none⟩ = some (.slice (some ⟨db, eo, none⟩) n4 dc) ∧ w'.cell? ⟨b, off + k * 4, none⟩ = some (.int .i64 2) ∧ w'.cell? ⟨b, off + k * 4 + 1, none⟩ = some (.slice (some ⟨pb, po, none⟩) 2 pc) ∧ w'.cell? ⟨b, off + k * 4 + 2, none⟩ = some (.int .i64 d.wd) ∧ w'.cell? ⟨b, off + k * 4 + 3, none⟩ = some (.int .i64 d.len) ∧ w'.cell? ⟨db, eo + k, none⟩ = some (.int .i64 C))
        (first | exact ⟨qA, qB, g1, g2, g3, g4, g5⟩ | go_keep | (have hZ : Below wb.heap.size wb _ := (by ((repeat (first | (with_reducible exact Below.refl _ _) | (with_reducible refine below_drewN ?_ _) | (with_reducible refine Below.drew ?_) | (with_reducible refine below_al ?_ _) | (with_reducible refine below_on (by assumption) ?_) | ((with_reducible refine Below.setCell ?_ ?_ _); rotate_left; focus (first | omega | (simp; done) | (simp; omega))) | (with_reducible assumption))); done)); exact ⟨cell_by' hZ qA, cell_by' hZ qB, cell_by' hZ g1, cell_by' hZ g2, cell_by' hZ g3, cell_by' hZ g4, cell_by' hZ g5⟩) | exact ⟨cell_by' (by ((repeat (first | (with_reducible exact Below.refl _ _) | (with_reducible refine below_drewN ?_ _) | (with_reducible refine Below.drew ?_) | (with_reducible refine below_al ?_ _) | (with_reducible refine below_on (by assumption) ?_) | ((with_reducible refine Below.setCell ?_ ?_ _); rotate_left; focus (first | omega | (simp; done) | (simp; omega))) | (with_reducible assumption))); done)) qA, cell_by' (by ((repeat (first | (with_reducible exact Below.refl _ _) | (with_reducible refine below_drewN ?_ _) | (with_reducible refine Below.drew ?_) | (with_reducible refine below_al ?_ _) | (with_reducible refine below_on (by assumption) ?_) | ((with_reducible refine Below.setCell ?_ ?_ _); rotate_left; focus (first | omega | (simp; done) | (simp; omega))) | (with_reducible assumption))); done)) qB, cell_by' (by ((repeat (first | (with_reducible exact Below.refl _ _) | (with_reducible refine below_drewN ?_ _) | (with_reducible refine Below.drew ?_) | (with_reducible refine below_al ?_ _) | (with_reducible refine below_on (by assumption) ?_) | ((with_reducible refine Below.setCell ?_ ?_ _); rotate_left; focus (first | omega | (simp; done) | (simp; omega))) | (with_reducible assumption))); done)) g1, cell_by' (by ((repeat (first | (with_reducible exact Below.refl _ _) | (with_reducible refine below_drewN ?_ _) | (with_reducible refine Below.drew ?_) | (with_reducible refine below_al ?_ _) | (with_reducible refine below_on (by assumption) ?_) | ((with_reducible refine Below.setCell ?_ ?_ _); rotate_left; focus (first | omega | (simp; done) | (simp; omega))) | (with_reducible assumption))); done)) g2, cell_by' (by ((repeat (first | (with_reducible exact Below.refl _ _) | (with_reducible refine below_drewN ?_ _) | (with_reducible refine Below.drew ?_) | (with_reducible refine below_al ?_ _) | (with_reducible refine below_on (by assumption) ?_) | ((with_reducible refine Below.setCell ?_ ?_ _); rotate_left; focus (first | omega | (simp; done) | (simp; omega))) | (with_reducible assumption))); done)) g3, cell_by' (by ((repeat (first | (with_reducible exact Below.refl _ _) | (with_reducible refine below_drewN ?_ _) | (with_reducible refine Below.drew ?_) | (with_reducible refine below_al ?_ _) | (with_reducible refine below_on (by assumption) ?_) | ((with_reducible refine Below.setCell ?_ ?_ _); rotate_left; focus (first | omega | (simp; done) | (simp; omega))) | (with_reducible assumption))); done)) g4, cell_by' (by ((repeat (first | (with_reducible exact Below.refl _ _) | (with_reducible refine below_drewN ?_ _) | (with_reducible refine Below.drew ?_) | (with_reducible refine below_al ?_ _) | (with_reducible refine below_on (by assumption) ?_) | ((with_reducible refine Below.setCell ?_ ?_ _); rotate_left; focus (first | omega | (simp; done) | (simp; omega))) | (with_reducible assumption))); done)) g5⟩)
        (fail)
      all_goals (go_wp2_with fail; go_meet)
      all_goals
        first
        | exact ⟨wb.heap.size + 1, wb.heap.size, rfl, rfl, ⟨by omega, by omega, (by simp <;> omega), by omega⟩, Lib.hid (BldI.lit (cs := #[.int .i64 C]) (zs := [C]) (by ((repeat (first | (with_reducible assumption) | (with_reducible refine Blk.drewN ?_ _) | (with_reducible refine Blk.drew ?_) | ((with_reducible refine Blk.new _ ?_); focus (first | omega | (simp; done) | (simp; omega))) | (with_reducible refine Blk.past ?_ _) | ((with_reducible refine Blk.apart ?_ _ _ _ ?_); rotate_left; focus (first | omega | (simp; done) | (simp; omega))) | (with_reducible refine Blk.by (by assumption) ?_))); done)) rfl (by simp) (Nat.le_refl _) (by omega) (by simp <;> omega)), (by ((repeat (first | (with_reducible assumption) | (with_reducible refine Blk.drewN ?_ _) | (with_reducible refine Blk.drew ?_) | ((with_reducible refine Blk.new _ ?_); focus (first | omega | (simp; done) | (simp; omega))) | (with_reducible refine Blk.past ?_ _) | ((with_reducible refine Blk.apart ?_ _ _ _ ?_); rotate_left; focus (first | omega | (simp; done) | (simp; omega))) | (with_reducible refine Blk.by (by assumption) ?_))); done)), (by ((repeat (first | (with_reducible assumption) | (with_reducible refine Blk.drewN ?_ _) | (with_reducible refine Blk.drew ?_) | ((with_reducible refine Blk.new _ ?_); focus (first | omega | (simp; done) | (simp; omega))) | (with_reducible refine Blk.past ?_ _) | ((with_reducible refine Blk.apart ?_ _ _ _ ?_); rotate_left; focus (first | omega | (simp; done) | (simp; omega))) | (with_reducible refine Blk.by (by assumption) ?_))); done)), (by ((repeat (first | (with_reducible exact Below.refl _ _) | (with_reducible refine below_drewN ?_ _) | (with_reducible refine Below.drew ?_) | (with_reducible refine below_al ?_ _) | (with_reducible refine below_on (by assumption) ?_) | ((with_reducible refine Below.setCell ?_ ?_ _); rotate_left; focus (first | omega | (simp; done) | (simp; omega))) | (with_reducible assumption))); done))⟩
        | exact ⟨wb.heap.size, wb.heap.size + 1, rfl, rfl, ⟨by omega, by omega, (by simp <;> omega), by omega⟩, Lib.hid (BldI.lit (cs := #[.int .i64 C]) (zs := [C]) (by ((repeat (first | (with_reducible assumption) | (with_reducible refine Blk.drewN ?_ _) | (with_reducible refine Blk.drew ?_) | ((with_reducible refine Blk.new _ ?_); focus (first | omega | (simp; done) | (simp; omega))) | (with_reducible refine Blk.past ?_ _) | ((with_reducible refine Blk.apart ?_ _ _ _ ?_); rotate_left; focus (first | omega | (simp; done) | (simp; omega))) | (with_reducible refine Blk.by (by assumption) ?_))); done)) rfl (by simp) (Nat.le_refl _) (by omega) (by simp <;> omega)), (by ((repeat (first | (with_reducible assumption) | (with_reducible refine Blk.drewN ?_ _) | (with_reducible refine Blk.drew ?_) | ((with_reducible refine Blk.new _ ?_); focus (first | omega | (simp; done) | (simp; omega))) | (with_reducible refine Blk.past ?_ _) | ((with_reducible refine Blk.apart ?_ _ _ _ ?_); rotate_left; focus (first | omega | (simp; done) | (simp; omega))) | (with_reducible refine Blk.by (by assumption) ?_))); done)), (by ((repeat (first | (with_reducible assumption) | (with_reducible refine Blk.drewN ?_ _) | (with_reducible refine Blk.drew ?_) | ((with_reducible refine Blk.new _ ?_); focus (first | omega | (simp; done) | (simp; omega))) | (with_reducible refine Blk.past ?_ _) | ((with_reducible refine Blk.apart ?_ _ _ _ ?_); rotate_left; focus (first | omega | (simp; done) | (simp; omega))) | (with_reducible refine Blk.by (by assumption) ?_))); done)), (by ((repeat (first | (with_reducible exact Below.refl _ _) | (with_reducible refine below_drewN ?_ _) | (with_reducible refine Below.drew ?_) | (with_reducible refine below_al ?_ _) | (with_reducible refine below_on (by assumption) ?_) | ((with_reducible refine Below.setCell ?_ ?_ _); rotate_left; focus (first | omega | (simp; done) | (simp; omega))) | (with_reducible assumption))); done))⟩
    case rest =>
      clear kA kB hW qA qB lB hl1 hl2 hl3 ha1 ha2 ha3 ha4 g1 g2 g3 g4 g5
      obtain ⟨D, e, rfl, rfl, ⟨hD, he1, he2, hDe⟩, HBI, kB, kD, hW⟩ := hcut
      obtain ⟨wd, rfl⟩ : ∃ wd, wd = wc := ⟨_, rfl⟩
      have qB := kB.cell
      have qD := kD.cell
      have lD := kD.lt
      have hsz := hW.size
      go_wp2_with fail
      refine (HF.out _ (HS.out.by (by ((repeat (first | (with_reducible exact Below.refl _ _) | (with_reducible refine below_drewN ?_ _) | (with_reducible refine Below.drew ?_) | (with_reducible refine below_al ?_ _) | (with_reducible refine below_on (by assumption) ?_) | ((with_reducible refine Below.setCell ?_ ?_ _); rotate_left; focus (first | omega | (simp; done) | (simp; omega))) | (with_reducible assumption))); done)))).mono ?_
      rintro e1 w1 ⟨rfl, hb1⟩
      have HB1 := Lib.hid (HBI.out.by hb1)
      have kB1 := Blk.by hb1 kB
      have hW1 := below_on hb1 hW
      have m1 := cell_by' hW1 f1
      have m2 := cell_by' hW1 f2
      have qB1 := kB1.cell 0
      have lB1 := kB1.lt
      have hs1 := hb1.size
      have hl4 : nb < w1.heap.size := by omega
      clear hb1 kB hW qB qD lD
      go_upto_region 5 with fail
      go_region_held3 (fun w' => w'.cell? ⟨w.heap.size + 1, 0, none⟩ = some (.slice (some ⟨nb, no, none⟩) n3 nc) ∧ w'.cell? ⟨nb, no + p, none⟩ = some (.int .i64 A) ∧ w'.cell? ⟨nb, no + q, none⟩ = some (.int .i64 B))
        (first | exact ⟨qB1, m1, m2⟩ | go_keep | exact ⟨kB3.cell 0, cell_by' hW3 f1, cell_by' hW3 f2⟩)
        (first | (refine step_pushI (by rfl) _ _ (by rfl) e (e + 1) (.slice (some ⟨e, 0, none⟩) 1 1) [C] [min A B, max A B] (by rfl) (HB1.out.by (by ((repeat (first | (with_reducible exact Below.refl _ _) | (with_reducible refine below_drewN ?_ _) | (with_reducible refine Below.drew ?_) | (with_reducible refine below_al ?_ _) | (with_reducible refine below_on (by assumption) ?_) | ((with_reducible refine Below.setCell ?_ ?_ _); rotate_left; focus (first | omega | (simp; done) | (simp; omega))) | (with_reducible assumption))); done))) w1.heap.size 2 _ (by rfl) (by rfl) (by omega) (Blk.new _ rfl) (by simp [icells] <;> omega) (by omega) (by simp) ?_; intro a3 c3 w3 hB3 hw3; have HB3 := Lib.hid hB3; have kB3 : Blk w3 (w.heap.size + 1) #[.slice (some ⟨nb, no, none⟩) n3 nc, .slice (some ⟨db, eo, none⟩) n4 dc] 30 := hw3.blk (by ((repeat (first | (with_reducible assumption) | (with_reducible refine Blk.drewN ?_ _) | (with_reducible refine Blk.drew ?_) | ((with_reducible refine Blk.new _ ?_); focus (first | omega | (simp; done) | (simp; omega))) | (with_reducible refine Blk.past ?_ _) | ((with_reducible refine Blk.apart ?_ _ _ _ ?_); rotate_left; focus (first | omega | (simp; done) | (simp; omega))) | (with_reducible refine Blk.by (by assumption) ?_))); done)) (by omega); have hW3 : Below w.heap.size w w3 := hw3.below (by ((repeat (first | (with_reducible exact Below.refl _ _) | (with_reducible refine below_drewN ?_ _) | (with_reducible refine Below.drew ?_) | (with_reducible refine below_al ?_ _) | (with_reducible refine below_on (by assumption) ?_) | ((with_reducible refine Below.setCell ?_ ?_ _); rotate_left; focus (first | omega | (simp; done) | (simp; omega))) | (with_reducible assumption))); done)) (by omega); clear hB3))
      all_goals go_wp2
      all_goals
        go_ret
        exact ⟨_, rfl, OwnR.wide' HB3.out.own (by omega) (Nat.le_refl _), hW3⟩
end Go.Proofs.YtpaiiaajbojmnaaGreat

/- The signature of a device: the program's, of a transistor. -/
namespace Go.Proofs.YtpaiiaajbojmnaaGreat
open Go.RowKit
set_option linter.unusedVariables false
set_option linter.unusedSimpArgs false

set_option maxRecDepth 100000 in
set_option maxHeartbeats 8000000 in
theorem dsgDev_m (x : Nl) (cn cd : List Int) (k : Nat) (d : Dv) (g p q : Nat) (v : Value) (sn sd : Value) (w : World) (h : NlV w v x) (hn : IntSl w sn cn) (hd : IntSl w sd cd) (hx : x.ds[k]? = some d) (hk : k < cd.length) (hk2 : ¬ d.kind = 2) (hk01 : d.kind = 0 ∨ d.kind = 1) (hpins : d.pins = [(g : Int), (p : Int), (q : Int)]) (hg : g < cn.length) (hp : p < cn.length) (hq : q < cn.length) (hl : x.ds.length ≤ 24) (hcn : cn.length ≤ 24) :
    Calls Tryz.prog 27 #[v, .agg #[sn, sd], .int .i64 k] w fun e w' => ∃ v', e = .returned v' ∧ OwnR w' w.heap.size w'.heap.size v' ([nmOf cd k, nmOf cn g] ++ dsgT (nmOf cn p) (nmOf cn q)) ∧ Below w.heap.size w w' := by
  obtain ⟨s1, s2, rfl, hD, hP⟩ := h
  obtain ⟨a2, c2, rfl⟩ := hP.sized
  have hkl : k < x.ds.length := (List.getElem?_eq_some_iff.1 hx).1
  rcases hD with ⟨_, _, _, h2⟩ | ⟨b, off, cap, rfl, h2, h3, h4⟩
  · rw [h2] at hkl; simp at hkl
  obtain ⟨sv, e1, e2, e3, e4, hS⟩ := h4 k d hx
  rw [hpins] at hS
  obtain ⟨pb, po, pc, rfl, p0, p1, p2, lp⟩ := hS.three
  obtain ⟨nb, no, nc, rfl, ln, cN⟩ := hn.nm (by omega)
  obtain ⟨db, eo, dc, rfl, ld, cD⟩ := hd.nm (by omega)
  have f1 := cN p hp
  have f2 := cN q hq
  have f3 := cD k hk
  have f0 := cN g hg
  obtain ⟨K, hK⟩ : ∃ K, d.kind = K := ⟨_, rfl⟩
  rw [hK] at e1 hk2
  have hz : (K == 2) = false := by rw [beq_eq_false_iff_ne]; exact hk2
  have i8 : (0 : Int) ≤ (g : Int) := by omega
  have i9 : (g : Int) < (cn.length : Int) := by omega
  have lb := lt_of_cell e1
  dsimp only at lb
  have i1 : (0 : Int) ≤ (k : Int) := by omega
  have i2 : (k : Int) < (x.ds.length : Int) := by omega
  have i3 : (k : Int) < (cd.length : Int) := by omega
  have i4 : (0 : Int) ≤ (p : Int) := by omega
  have i5 : (p : Int) < (cn.length : Int) := by omega
  have i6 : (0 : Int) ≤ (q : Int) := by omega
  have i7 : (q : Int) < (cn.length : Int) := by omega
  have hs4 : Shp ⟨K, [(g : Int), (p : Int), (q : Int)], d.wd, d.len⟩ := .inr ⟨by rw [← hK]; exact hk01, _, _, _, rfl⟩
  have HF := Lib.hid (fun w h => currentPins_any ⟨K, [(g : Int), (p : Int), (q : Int)], d.wd, d.len⟩ (.slice (some ⟨pb, po, none⟩) 3 pc) w h hs4)
  simp only [curP, curQ] at HF
  have HS := Lib.hid hS
  clear hs4 hk01
  unfold dsgT
  generalize nmOf cn (g : Int) = G at *
  generalize nmOf cn (p : Int) = A at *
  generalize nmOf cn (q : Int) = B at *
  generalize nmOf cd (k : Int) = C at *
  generalize x.ds.length = n1 at *
  generalize x.ps.length = n2 at *
  generalize cn.length = n3 at *
  generalize cd.length = n4 at *
  clear cN cD hn hd hS h4 hP hx hpins h2 h3 hkl hk2
  go_enter Tryz.func27, Tryz.ntmps27
  go_upto_region 0 with fail
  go_cut [3, 4] (fun s3 s4 wx => s3 = .pointer (some ⟨w.heap.size, 0, none⟩) ∧ s4 = .pointer (some ⟨w.heap.size + 1, 0, none⟩) ∧ Blk wx w.heap.size #[.int .i64 x.nets, .slice (some ⟨b, off, none⟩) n1 cap, .slice a2 n2 c2] 27 ∧ Blk wx (w.heap.size + 1) #[.slice (some ⟨nb, no, none⟩) n3 nc, .slice (some ⟨db, eo, none⟩) n4 dc] 30 ∧ Below w.heap.size w wx)
  case first =>
    go_wp2_with fail
    go_meet
    exact ⟨rfl, rfl, (by ((repeat (first | (with_reducible assumption) | (with_reducible refine Blk.drewN ?_ _) | (with_reducible refine Blk.drew ?_) | ((with_reducible refine Blk.new _ ?_); focus (first | omega | (simp; done) | (simp; omega))) | (with_reducible refine Blk.past ?_ _) | ((with_reducible refine Blk.apart ?_ _ _ _ ?_); rotate_left; focus (first | omega | (simp; done) | (simp; omega))) | (with_reducible refine Blk.by (by assumption) ?_))); done)), (by ((repeat (first | (with_reducible assumption) | (with_reducible refine Blk.drewN ?_ _) | (with_reducible refine Blk.drew ?_) | ((with_reducible refine Blk.new _ ?_); focus (first | omega | (simp; done) | (simp; omega))) | (with_reducible refine Blk.past ?_ _) | ((with_reducible refine Blk.apart ?_ _ _ _ ?_); rotate_left; focus (first | omega | (simp; done) | (simp; omega))) | (with_reducible refine Blk.by (by assumption) ?_))); done)), (by ((repeat (first | (with_reducible exact Below.refl _ _) | (with_reducible refine below_drewN ?_ _) | (with_reducible refine Below.drew ?_) | (with_reducible refine below_al ?_ _) | (with_reducible refine below_on (by assumption) ?_) | ((with_reducible refine Below.setCell ?_ ?_ _); rotate_left; focus (first | omega | (simp; done) | (simp; omega))) | (with_reducible assumption))); done))⟩
  case rest =>
    obtain ⟨rfl, rfl, kA, kB, hW⟩ := hcut
    obtain ⟨wb, rfl⟩ : ∃ wb, wb = wc := ⟨_, rfl⟩
    have g1 := cell_by' hW e1
    have g2 := cell_by' hW e2
    have g3 := cell_by' hW e3
    have g4 := cell_by' hW e4
    have g5 := cell_by' hW f3
    have qA := kA.cell 1
    have qB := kB.cell 1
    have lB := kB.lt
    have hl1 : b < wb.heap.size := by omega
    have hl2 : db < wb.heap.size := by omega
    have hl3 : w.heap.size < wb.heap.size := by omega
    have ha1 : b ≠ wb.heap.size ∧ b ≠ wb.heap.size + 1 := by omega
    have ha2 : db ≠ wb.heap.size ∧ db ≠ wb.heap.size + 1 := by omega
    have ha3 : w.heap.size ≠ wb.heap.size ∧ w.heap.size ≠ wb.heap.size + 1 := by omega
    have ha4 : w.heap.size + 1 ≠ wb.heap.size ∧ w.heap.size + 1 ≠ wb.heap.size + 1 := by omega
    go_upto_region 1 with fail
    go_cut [7, 8] (fun s7 s8 wx => ∃ D e : Nat, s7 = .pointer (some ⟨D, 0, none⟩) ∧ s8 = .slice (some ⟨e, 0, none⟩) 1 1 ∧ (w.heap.size + 1 < D ∧ w.heap.size + 1 < e ∧ e < wx.heap.size ∧ D ≠ e) ∧ Hid (BldI wx e (e + 1) (.slice (some ⟨e, 0, none⟩) 1 1) [C]) ∧ Blk wx (w.heap.size + 1) #[.slice (some ⟨nb, no, none⟩) n3 nc, .slice (some ⟨db, eo, none⟩) n4 dc] 30 ∧ Blk wx D #[.int .i64 K, .slice (some ⟨pb, po, none⟩) 3 pc, .int .i64 d.wd, .int .i64 d.len] 62 ∧ Below w.heap.size w wx)
    case first =>
      go_region_held3 (fun w' => w'.cell? ⟨w.heap.size, 1, none⟩ = some (.slice (some ⟨b, off, none⟩) n1 cap) ∧ w'.cell? ⟨w.heap.size + 1, 1, none⟩ = some (.slice (some ⟨db, eo, none⟩) n4 dc) ∧ w'.cell? ⟨b, off + k * 4, none⟩ = some (.int .i64 K) ∧ w'.cell? ⟨b, off + k * 4 + 1, none⟩ = some (.slice (some ⟨pb, po, none⟩) 3 pc) ∧ w'.cell? ⟨b, off + k * 4 + 2, none⟩ = some (.int .i64 d.wd) ∧ w'.cell? ⟨b, off + k * 4 + 3, none⟩ = some (.int .i64 d.len) ∧ w'.cell? ⟨db, eo + k, none⟩ = some (.int .i64 C))
        (first | exact ⟨qA, qB, g1, g2, g3, g4, g5⟩ | go_keep | (have hZ : Below wb.heap.size wb _ := (by ((repeat (first | (with_reducible exact Below.refl _ _) | (with_reducible refine below_drewN ?_ _) | (with_reducible refine Below.drew ?_) | (with_reducible refine below_al ?_ _) | (with_reducible refine below_on (by assumption) ?_) | ((with_reducible refine Below.setCell ?_ ?_ _); rotate_left; focus (first | omega | (simp; done) | (simp; omega))) | (with_reducible assumption))); done)); exact ⟨cell_by' hZ qA, cell_by' hZ qB, cell_by' hZ g1, cell_by' hZ g2, cell_by' hZ g3, cell_by' hZ g4, cell_by' hZ g5⟩) | exact ⟨cell_by' (by ((repeat (first | (with_reducible exact Below.refl _ _) | (with_reducible refine below_drewN ?_ _) | (with_reducible refine Below.drew ?_) | (with_reducible refine below_al ?_ _) | (with_reducible refine below_on (by assumption) ?_) | ((with_reducible refine Below.setCell ?_ ?_ _); rotate_left; focus (first | omega | (simp; done) | (simp; omega))) | (with_reducible assumption))); done)) qA, cell_by' (by ((repeat (first | (with_reducible exact Below.refl _ _) | (with_reducible refine below_drewN ?_ _) | (with_reducible refine Below.drew ?_) | (with_reducible refine below_al ?_ _) | (with_reducible refine below_on (by assumption) ?_) | ((with_reducible refine Below.setCell ?_ ?_ _); rotate_left; focus (first | omega | (simp; done) | (simp; omega))) | (with_reducible assumption))); done)) qB, cell_by' (by ((repeat (first | (with_reducible exact Below.refl _ _) | (with_reducible refine below_drewN ?_ _) | (with_reducible refine Below.drew ?_) | (with_reducible refine below_al ?_ _) | (with_reducible refine below_on (by assumption) ?_) | ((with_reducible refine Below.setCell ?_ ?_ _); rotate_left; focus (first | omega | (simp; done) | (simp; omega))) | (with_reducible assumption))); done)) g1, cell_by' (by ((repeat (first | (with_reducible exact Below.refl _ _) | (with_reducible refine below_drewN ?_ _) | (with_reducible refine Below.drew ?_) | (with_reducible refine below_al ?_ _) | (with_reducible refine below_on (by assumption) ?_) | ((with_reducible refine Below.setCell ?_ ?_ _); rotate_left; focus (first | omega | (simp; done) | (simp; omega))) | (with_reducible assumption))); done)) g2, cell_by' (by ((repeat (first | (with_reducible exact Below.refl _ _) | (with_reducible refine below_drewN ?_ _) | (with_reducible refine Below.drew ?_) | (with_reducible refine below_al ?_ _) | (with_reducible refine below_on (by assumption) ?_) | ((with_reducible refine Below.setCell ?_ ?_ _); rotate_left; focus (first | omega | (simp; done) | (simp; omega))) | (with_reducible assumption))); done)) g3, cell_by' (by ((repeat (first | (with_reducible exact Below.refl _ _) | (with_reducible refine below_drewN ?_ _) | (with_reducible refine Below.drew ?_) | (with_reducible refine below_al ?_ _) | (with_reducible refine below_on (by assumption) ?_) | ((with_reducible refine Below.setCell ?_ ?_ _); rotate_left; focus (first | omega | (simp; done) | (simp; omega))) | (with_reducible assumption))); done)) g4, cell_by' (by ((repeat (first | (with_reducible exact Below.refl _ _) | (with_reducible refine below_drewN ?_ _) | (with_reducible refine Below.drew ?_) | (with_reducible refine below_al ?_ _) | (with_reducible refine below_on (by assumption) ?_) | ((with_reducible refine Below.setCell ?_ ?_ _); rotate_left; focus (first | omega | (simp; done) | (simp; omega))) | (with_reducible assumption))); done)) g5⟩)
        (fail)
      all_goals (go_wp2_with fail; go_meet)
      all_goals
        first
        | exact ⟨wb.heap.size + 1, wb.heap.size, rfl, rfl, ⟨by omega, by omega, (by simp <;> omega), by omega⟩, Lib.hid (BldI.lit (cs := #[.int .i64 C]) (zs := [C]) (by ((repeat (first | (with_reducible assumption) | (with_reducible refine Blk.drewN ?_ _) | (with_reducible refine Blk.drew ?_) | ((with_reducible refine Blk.new _ ?_); focus (first | omega | (simp; done) | (simp; omega))) | (with_reducible refine Blk.past ?_ _) | ((with_reducible refine Blk.apart ?_ _ _ _ ?_); rotate_left; focus (first | omega | (simp; done) | (simp; omega))) | (with_reducible refine Blk.by (by assumption) ?_))); done)) rfl (by simp) (Nat.le_refl _) (by omega) (by simp <;> omega)), (by ((repeat (first | (with_reducible assumption) | (with_reducible refine Blk.drewN ?_ _) | (with_reducible refine Blk.drew ?_) | ((with_reducible refine Blk.new _ ?_); focus (first | omega | (simp; done) | (simp; omega))) | (with_reducible refine Blk.past ?_ _) | ((with_reducible refine Blk.apart ?_ _ _ _ ?_); rotate_left; focus (first | omega | (simp; done) | (simp; omega))) | (with_reducible refine Blk.by (by assumption) ?_))); done)), (by ((repeat (first | (with_reducible assumption) | (with_reducible refine Blk.drewN ?_ _) | (with_reducible refine Blk.drew ?_) | ((with_reducible refine Blk.new _ ?_); focus (first | omega | (simp; done) | (simp; omega))) | (with_reducible refine Blk.past ?_ _) | ((with_reducible refine Blk.apart ?_ _ _ _ ?_); rotate_left; focus (first | omega | (simp; done) | (simp; omega))) | (with_reducible refine Blk.by (by assumption) ?_))); done)), (by ((repeat (first | (with_reducible exact Below.refl _ _) | (with_reducible refine below_drewN ?_ _) | (with_reducible refine Below.drew ?_) | (with_reducible refine below_al ?_ _) | (with_reducible refine below_on (by assumption) ?_) | ((with_reducible refine Below.setCell ?_ ?_ _); rotate_left; focus (first | omega | (simp; done) | (simp; omega))) | (with_reducible assumption))); done))⟩
        | exact ⟨wb.heap.size, wb.heap.size + 1, rfl, rfl, ⟨by omega, by omega, (by simp <;> omega), by omega⟩, Lib.hid (BldI.lit (cs := #[.int .i64 C]) (zs := [C]) (by ((repeat (first | (with_reducible assumption) | (with_reducible refine Blk.drewN ?_ _) | (with_reducible refine Blk.drew ?_) | ((with_reducible refine Blk.new _ ?_); focus (first | omega | (simp; done) | (simp; omega))) | (with_reducible refine Blk.past ?_ _) | ((with_reducible refine Blk.apart ?_ _ _ _ ?_); rotate_left; focus (first | omega | (simp; done) | (simp; omega))) | (with_reducible refine Blk.by (by assumption) ?_))); done)) rfl (by simp) (Nat.le_refl _) (by omega) (by simp <;> omega)), (by ((repeat (first | (with_reducible assumption) | (with_reducible refine Blk.drewN ?_ _) | (with_reducible refine Blk.drew ?_) | ((with_reducible refine Blk.new _ ?_); focus (first | omega | (simp; done) | (simp; omega))) | (with_reducible refine Blk.past ?_ _) | ((with_reducible refine Blk.apart ?_ _ _ _ ?_); rotate_left; focus (first | omega | (simp; done) | (simp; omega))) | (with_reducible refine Blk.by (by assumption) ?_))); done)), (by ((repeat (first | (with_reducible assumption) | (with_reducible refine Blk.drewN ?_ _) | (with_reducible refine Blk.drew ?_) | ((with_reducible refine Blk.new _ ?_); focus (first | omega | (simp; done) | (simp; omega))) | (with_reducible refine Blk.past ?_ _) | ((with_reducible refine Blk.apart ?_ _ _ _ ?_); rotate_left; focus (first | omega | (simp; done) | (simp; omega))) | (with_reducible refine Blk.by (by assumption) ?_))); done)), (by ((repeat (first | (with_reducible exact Below.refl _ _) | (with_reducible refine below_drewN ?_ _) | (with_reducible refine Below.drew ?_) | (with_reducible refine below_al ?_ _) | (with_reducible refine below_on (by assumption) ?_) | ((with_reducible refine Below.setCell ?_ ?_ _); rotate_left; focus (first | omega | (simp; done) | (simp; omega))) | (with_reducible assumption))); done))⟩
    case rest =>
      clear kA kB hW qA qB lB hl1 hl2 hl3 ha1 ha2 ha3 ha4 g1 g2 g3 g4 g5
      obtain ⟨D, e, rfl, rfl, ⟨hD, he1, he2, hDe⟩, HBI, kB, kD, hW⟩ := hcut
      obtain ⟨wd, rfl⟩ : ∃ wd, wd = wc := ⟨_, rfl⟩
      have qB := kB.cell
      have qD := kD.cell
      have lD := kD.lt
      have hsz := hW.size
      have g0 := cell_by' hW f0
      have r0 := cell_by' hW p0
      have hl1 : nb < wd.heap.size := by omega
      have hl3 : pb < wd.heap.size := by omega
      go_wp2_with fail
      go_region_held3 (fun w' => w'.cell? ⟨w.heap.size + 1, 0, none⟩ = some (.slice (some ⟨nb, no, none⟩) n3 nc) ∧ w'.cell? ⟨D, 1, none⟩ = some (.slice (some ⟨pb, po, none⟩) 3 pc) ∧ w'.cell? ⟨pb, po, none⟩ = some (.int .i64 g) ∧ w'.cell? ⟨nb, no + g, none⟩ = some (.int .i64 G))
        (first | exact ⟨kB.cell 0, kD.cell 1, r0, g0⟩ | exact ⟨kB3.cell 0, kD3.cell 1, cell_by' hW3 p0, cell_by' hW3 f0⟩ | go_keep)
        (first | (refine step_pushI (by rfl) _ _ (by rfl) e (e + 1) (.slice (some ⟨e, 0, none⟩) 1 1) [C] [G] (by rfl) (HBI.out.by (by ((repeat (first | (with_reducible exact Below.refl _ _) | (with_reducible refine below_drewN ?_ _) | (with_reducible refine Below.drew ?_) | (with_reducible refine below_al ?_ _) | (with_reducible refine below_on (by assumption) ?_) | ((with_reducible refine Below.setCell ?_ ?_ _); rotate_left; focus (first | omega | (simp; done) | (simp; omega))) | (with_reducible assumption))); done))) wd.heap.size 1 _ (by rfl) (by rfl) (by omega) (Blk.new _ rfl) (by rfl) (by omega) (by simp) ?_; intro a3 c3 w3 hB3 hw3; have HB3 := Lib.hid hB3; have kB3 : Blk w3 (w.heap.size + 1) #[.slice (some ⟨nb, no, none⟩) n3 nc, .slice (some ⟨db, eo, none⟩) n4 dc] 30 := hw3.blk (by ((repeat (first | (with_reducible assumption) | (with_reducible refine Blk.drewN ?_ _) | (with_reducible refine Blk.drew ?_) | ((with_reducible refine Blk.new _ ?_); focus (first | omega | (simp; done) | (simp; omega))) | (with_reducible refine Blk.past ?_ _) | ((with_reducible refine Blk.apart ?_ _ _ _ ?_); rotate_left; focus (first | omega | (simp; done) | (simp; omega))) | (with_reducible refine Blk.by (by assumption) ?_))); done)) (by omega); have kD3 : Blk w3 D #[.int .i64 K, .slice (some ⟨pb, po, none⟩) 3 pc, .int .i64 d.wd, .int .i64 d.len] 62 := hw3.blk (by ((repeat (first | (with_reducible assumption) | (with_reducible refine Blk.drewN ?_ _) | (with_reducible refine Blk.drew ?_) | ((with_reducible refine Blk.new _ ?_); focus (first | omega | (simp; done) | (simp; omega))) | (with_reducible refine Blk.past ?_ _) | ((with_reducible refine Blk.apart ?_ _ _ _ ?_); rotate_left; focus (first | omega | (simp; done) | (simp; omega))) | (with_reducible refine Blk.by (by assumption) ?_))); done)) (by omega); have hW3 : Below w.heap.size w w3 := hw3.below (by ((repeat (first | (with_reducible exact Below.refl _ _) | (with_reducible refine below_drewN ?_ _) | (with_reducible refine Below.drew ?_) | (with_reducible refine below_al ?_ _) | (with_reducible refine below_on (by assumption) ?_) | ((with_reducible refine Below.setCell ?_ ?_ _); rotate_left; focus (first | omega | (simp; done) | (simp; omega))) | (with_reducible assumption))); done)) (by omega); clear hB3))
      have qD3 := kD3.cell
      have lD3 := kD3.lt
      have hs3 := hw3.size
      simp only [World.size_alloc, World.size_drew] at hs3
      have hs4 : e ≤ w3.heap.size := by omega
      obtain ⟨hi, hhi⟩ : ∃ hi, w3.heap.size = hi := ⟨_, rfl⟩
      have HB4 := Lib.hid (hhi ▸ HB3.out)
      have hs5 : e ≤ hi := by omega
      have hs6 := hW3.size
      have HHI := Lib.hid hhi
      clear qB qD lD kB kD g0 r0 hs3 hhi HB3 hW HBI hw3
      go_wp2_with fail
      refine (HF.out _ (HS.out.by (by ((repeat (first | (with_reducible exact Below.refl _ _) | (with_reducible refine below_drewN ?_ _) | (with_reducible refine Below.drew ?_) | (with_reducible refine below_al ?_ _) | (with_reducible refine below_on (by assumption) ?_) | ((with_reducible refine Below.setCell ?_ ?_ _); rotate_left; focus (first | omega | (simp; done) | (simp; omega))) | (with_reducible assumption))); done)))).mono ?_
      rintro e1 w1 ⟨rfl, hb1⟩
      have HB1 := Lib.hid (HB4.out.by hb1)
      have kB1 := Blk.by hb1 kB3
      have hW1 := below_on hb1 hW3
      have m1 := cell_by' hW1 f1
      have m2 := cell_by' hW1 f2
      have qB1 := kB1.cell 0
      have lB1 := kB1.lt
      have hs1 := hb1.size
      have hl4 : nb < w1.heap.size := by omega
      clear hb1 kB3 kD3 hW3 qD3 lD3
      go_upto_region 5 with fail
      go_region_held3 (fun w' => w'.cell? ⟨w.heap.size + 1, 0, none⟩ = some (.slice (some ⟨nb, no, none⟩) n3 nc) ∧ w'.cell? ⟨nb, no + p, none⟩ = some (.int .i64 A) ∧ w'.cell? ⟨nb, no + q, none⟩ = some (.int .i64 B))
        (first | exact ⟨qB1, m1, m2⟩ | go_keep | exact ⟨kB4.cell 0, cell_by' hW4 f1, cell_by' hW4 f2⟩)
        (first | (refine step_pushI (by rfl) _ _ (by rfl) e hi (.slice a3 2 c3) [C, G] [min A B, max A B] (by rfl) (HB1.out.by (by ((repeat (first | (with_reducible exact Below.refl _ _) | (with_reducible refine below_drewN ?_ _) | (with_reducible refine Below.drew ?_) | (with_reducible refine below_al ?_ _) | (with_reducible refine below_on (by assumption) ?_) | ((with_reducible refine Below.setCell ?_ ?_ _); rotate_left; focus (first | omega | (simp; done) | (simp; omega))) | (with_reducible assumption))); done))) w1.heap.size 2 _ (by rfl) (by rfl) (by omega) (Blk.new _ rfl) (by simp [icells] <;> omega) (by omega) (by simp) ?_; intro a4 c4 w4 hB4 hw4; have HB5 := Lib.hid hB4; have kB4 : Blk w4 (w.heap.size + 1) #[.slice (some ⟨nb, no, none⟩) n3 nc, .slice (some ⟨db, eo, none⟩) n4 dc] 30 := hw4.blk (by ((repeat (first | (with_reducible assumption) | (with_reducible refine Blk.drewN ?_ _) | (with_reducible refine Blk.drew ?_) | ((with_reducible refine Blk.new _ ?_); focus (first | omega | (simp; done) | (simp; omega))) | (with_reducible refine Blk.past ?_ _) | ((with_reducible refine Blk.apart ?_ _ _ _ ?_); rotate_left; focus (first | omega | (simp; done) | (simp; omega))) | (with_reducible refine Blk.by (by assumption) ?_))); done)) (by omega); have hW4 : Below w.heap.size w w4 := hw4.below (by ((repeat (first | (with_reducible exact Below.refl _ _) | (with_reducible refine below_drewN ?_ _) | (with_reducible refine Below.drew ?_) | (with_reducible refine below_al ?_ _) | (with_reducible refine below_on (by assumption) ?_) | ((with_reducible refine Below.setCell ?_ ?_ _); rotate_left; focus (first | omega | (simp; done) | (simp; omega))) | (with_reducible assumption))); done)) (by omega); clear hB4))
      all_goals go_wp2
      all_goals
        go_ret
        exact ⟨_, rfl, OwnR.wide' HB5.out.own (by omega) (Nat.le_refl _), hW4⟩
end Go.Proofs.YtpaiiaajbojmnaaGreat

/- Both DeviceSignature. -/
namespace Go.Proofs.YtpaiiaajbojmnaaGreat
open Go.RowKit
set_option linter.unusedVariables false
set_option linter.unusedSimpArgs false

theorem dsgDevice_any (x : Nl) (c : List Int × List Int) (k : Nat) (d : Dv) (v u : Value) (w : World) (h : NlV w v x) (hc : CoV w u c) (hx : x.ds[k]? = some d) (hk : k < c.2.length) (hs : Shp d) (hp : ∀ p ∈ d.pins, 0 ≤ p ∧ p < c.1.length) (hl : x.ds.length ≤ 24) (hcn : c.1.length ≤ 24) :
    Calls Tryz.prog 27 #[v, u, .int .i64 k] w fun e w' => ∃ v', e = .returned v' ∧ OwnR w' w.heap.size w'.heap.size v' (dsgL d (nmOf c.2 k) c.1) ∧ Below w.heap.size w w' := by
  obtain ⟨s1, s2, rfl, hc1, hc2⟩ := hc
  rcases hs with ⟨k2, p, q, e⟩ | ⟨k2, g, p, q, e⟩
  · rw [dsgL_r k2 e]
    have h1 := hp p (by rw [e]; simp)
    have h2 := hp q (by rw [e]; simp)
    obtain ⟨p', rfl⟩ : ∃ p' : Nat, p = p' := ⟨p.toNat, by omega⟩
    obtain ⟨q', rfl⟩ : ∃ q' : Nat, q = q' := ⟨q.toNat, by omega⟩
    exact dsgDev_r x c.1 c.2 k d p' q' v s1 s2 w h hc1 hc2 hx hk k2 e (by omega) (by omega) hl hcn
  · have hk2 : ¬ d.kind = 2 := by omega
    rw [dsgL_m hk2 e]
    have h0 := hp g (by rw [e]; simp)
    have h1 := hp p (by rw [e]; simp)
    have h2 := hp q (by rw [e]; simp)
    obtain ⟨g', rfl⟩ : ∃ g' : Nat, g = g' := ⟨g.toNat, by omega⟩
    obtain ⟨p', rfl⟩ : ∃ p' : Nat, p = p' := ⟨p.toNat, by omega⟩
    obtain ⟨q', rfl⟩ : ∃ q' : Nat, q = q' := ⟨q.toNat, by omega⟩
    exact dsgDev_m x c.1 c.2 k d g' p' q' v s1 s2 w h hc1 hc2 hx hk hk2 k2 e (by omega) (by omega) (by omega) hl hcn
end Go.Proofs.YtpaiiaajbojmnaaGreat
