/- The signature of a device: the reference's. -/
import Derived.Test.YtaiadcfgmichpaaDsgM
import Derived.BigRegion
import Derived.Deep.DeepCutAuto
import Derived.Deep.RegionHeld3
namespace Go.Proofs.Ytaiadcfgmichpaa
open Go.RowKit
set_option linter.unusedVariables false
set_option linter.unusedSimpArgs false

set_option maxRecDepth 100000 in
set_option maxHeartbeats 4000000 in
theorem l29Dev_r (x : Nl) (cn cd : List Int) (k : Nat) (d : Dv) (p q : Nat) (v : Value) (sn sd : Value) (w : World) (h : NlV w v x) (hn : IntSl w sn cn) (hd : IntSl w sd cd) (hx : x.ds[k]? = some d) (hk : k < cd.length) (hk2 : d.kind = 2) (hpins : d.pins = [(p : Int), (q : Int)]) (hp : p < cn.length) (hq : q < cn.length) (hl : x.ds.length ≤ 24) (hcn : cn.length ≤ 24) :
    Calls Try.prog 53 #[v, .agg #[sn, sd], .int .i64 k] w fun e w' => ∃ v', e = .returned v' ∧ OwnR w' w.heap.size w'.heap.size v' ([nmOf cd k] ++ dsgT (nmOf cn p) (nmOf cn q)) ∧ Below w.heap.size w w' := by
  obtain ⟨s1, s2, rfl, hD, hP⟩ := h
  obtain ⟨a2, c2, rfl⟩ := hP.sized
  have hkl : k < x.ds.length := (List.getElem?_eq_some_iff.1 hx).1
  rcases hD with ⟨_, _, _, h2⟩ | ⟨b, off, cap, rfl, h2, h3, h4⟩
  · rw [h2] at hkl; simp at hkl
  obtain ⟨sv, e1, e2, e3, e4, hS⟩ := h4 k d hx
  rw [hpins] at hS
  obtain ⟨pb, po, pc, rfl, p0, p1, lp⟩ := hS.two
  obtain ⟨nb, no, nc, rfl, ln, cN⟩ := hn.nm (by omega)
  obtain ⟨db, eo, dc, rfl, ld, cD⟩ := hd.nm (by omega)
  have f1 := cN p hp
  have f2 := cN q hq
  have f3 := cD k hk
  rw [hk2] at e1
  have lb := lt_of_cell e1
  dsimp only at lb
  have i1 : (0 : Int) ≤ (k : Int) := by omega
  have i2 : (k : Int) < (x.ds.length : Int) := by omega
  have i3 : (k : Int) < (cd.length : Int) := by omega
  have i4 : (0 : Int) ≤ (p : Int) := by omega
  have i5 : (p : Int) < (cn.length : Int) := by omega
  have i6 : (0 : Int) ≤ (q : Int) := by omega
  have i7 : (q : Int) < (cn.length : Int) := by omega
  have HF := Lib.hid (fun w => l28First_any 2 d.wd d.len (some ⟨pb, po, none⟩) 0 pc (by omega) w)
  unfold dsgT
  generalize nmOf cn (p : Int) = A at *
  generalize nmOf cn (q : Int) = B at *
  generalize nmOf cd (k : Int) = C at *
  generalize x.ds.length = n1 at *
  generalize x.ps.length = n2 at *
  generalize cn.length = n3 at *
  generalize cd.length = n4 at *
  clear cN cD hn hd hS h4 hP hx hpins h2 h3 hkl hk2
  go_enter Try.func53, Try.ntmps53
  go_upto_region 1 with fail
  go_cut [7] (fun s7 wx => s7 = .pointer (some ⟨w.heap.size + 1 + 1, 0, none⟩) ∧ Blk wx w.heap.size #[.int .i64 x.nets, .slice (some ⟨b, off, none⟩) n1 cap, .slice a2 n2 c2] 35 ∧ Blk wx (w.heap.size + 1) #[.slice (some ⟨nb, no, none⟩) n3 nc, .slice (some ⟨db, eo, none⟩) n4 dc] 37 ∧ Blk wx (w.heap.size + 1 + 1) #[.int .i64 2, .slice (some ⟨pb, po, none⟩) 2 pc, .int .i64 d.wd, .int .i64 d.len] 83 ∧ Below w.heap.size w wx)
  case first =>
    go_wp2_with fail
    go_meet
    exact ⟨rfl, (by ((repeat (first | (with_reducible assumption) | (with_reducible refine Blk.drewN ?_ _) | (with_reducible refine Blk.drew ?_) | ((with_reducible refine Blk.new _ ?_); focus (first | omega | (simp; done) | (simp; omega))) | (with_reducible refine Blk.past ?_ _) | ((with_reducible refine Blk.apart ?_ _ _ _ ?_); rotate_left; focus (first | omega | (simp; done) | (simp; omega))) | (with_reducible refine Blk.by (by assumption) ?_))); done)), (by ((repeat (first | (with_reducible assumption) | (with_reducible refine Blk.drewN ?_ _) | (with_reducible refine Blk.drew ?_) | ((with_reducible refine Blk.new _ ?_); focus (first | omega | (simp; done) | (simp; omega))) | (with_reducible refine Blk.past ?_ _) | ((with_reducible refine Blk.apart ?_ _ _ _ ?_); rotate_left; focus (first | omega | (simp; done) | (simp; omega))) | (with_reducible refine Blk.by (by assumption) ?_))); done)), (by ((repeat (first | (with_reducible assumption) | (with_reducible refine Blk.drewN ?_ _) | (with_reducible refine Blk.drew ?_) | ((with_reducible refine Blk.new _ ?_); focus (first | omega | (simp; done) | (simp; omega))) | (with_reducible refine Blk.past ?_ _) | ((with_reducible refine Blk.apart ?_ _ _ _ ?_); rotate_left; focus (first | omega | (simp; done) | (simp; omega))) | (with_reducible refine Blk.by (by assumption) ?_))); done)), (by ((repeat (first | (with_reducible exact Below.refl _ _) | (with_reducible refine below_drewN ?_ _) | (with_reducible refine Below.drew ?_) | (with_reducible refine below_al ?_ _) | (with_reducible refine below_on (by assumption) ?_) | ((with_reducible refine Below.setCell ?_ ?_ _); rotate_left; focus (first | omega | (simp; done) | (simp; omega))) | (with_reducible assumption))); done))⟩
  case rest =>
    obtain ⟨rfl, kA, kB, kD, hW⟩ := hcut
    have g1 := cell_by' hW f1
    have g2 := cell_by' hW f2
    have g3 := cell_by' hW f3
    have r0 := cell_by' hW p0
    have r1 := cell_by' hW p1
    have lD := kD.lt
    have qB := kB.cell
    have qD := kD.cell
    have hsz := hW.size
    have hl1 : nb < wc.heap.size := by omega
    have hl2 : db < wc.heap.size := by omega
    have hl3 : pb < wc.heap.size := by omega
    go_wp2_with fail
    refine (HF.out _).mono ?_
    rintro e w1 ⟨rfl, hb1⟩
    have HB1 := Lib.hid (BldI.lit (zs := [C]) (lo := w.heap.size) (hi := wc.heap.size + 1) (Blk.by hb1 (Blk.new (w := wc) (cs := #[.int .i64 C]) (T := 2) _ rfl)) rfl (by simp) hsz (by omega) (by have := hb1.size; simpa using this))
    have hW1 : Below w.heap.size w w1 := below_on hb1 (below_al hW _)
    have m1 := cell_by' hW1 f1
    have m2 := cell_by' hW1 f2
    have t0 := cell_by' hW1 p0
    have t1 := cell_by' hW1 p1
    have kB1 := Blk.by hb1 (kB.past _)
    have kD1 := Blk.by hb1 (kD.past _)
    have qB1 := kB1.cell
    have qD1 := kD1.cell
    have hs1 := hb1.size
    simp only [World.size_alloc] at hs1
    clear hb1 kA kB kD hW g1 g2 g3 r0 r1 qB qD lD
    go_wp2
    go_quiet (fail)
    go_wp2_with (refine list_pushI (by rfl) _ _ (by rfl) w.heap.size (wc.heap.size + 1) (.slice (some ⟨wc.heap.size, 0, none⟩) 1 1) [C] [min A B, max A B] (by rfl) (HB1.out.by (by ((repeat (first | (with_reducible exact Below.refl _ _) | (with_reducible refine below_drewN ?_ _) | (with_reducible refine Below.drew ?_) | (with_reducible refine below_al ?_ _) | (with_reducible refine below_on (by assumption) ?_) | ((with_reducible refine Below.setCell ?_ ?_ _); rotate_left; focus (first | omega | (simp; done) | (simp; omega))) | (with_reducible assumption))); done))) w1.heap.size 2 _ (by rfl) (by rfl) (by omega) (Blk.new _ rfl) (by simp [icells] <;> omega) (by omega) (by simp) ?_; intro a3 c3 w3 hB3 hw3; have HB3 := Lib.hid hB3; have hW3 : Below w.heap.size w w3 := hw3.below (by first | exact (by ((repeat (first | (with_reducible exact Below.refl _ _) | (with_reducible refine below_drewN ?_ _) | (with_reducible refine Below.drew ?_) | (with_reducible refine below_al ?_ _) | (with_reducible refine below_on (by assumption) ?_) | ((with_reducible refine Below.setCell ?_ ?_ _); rotate_left; focus (first | omega | (simp; done) | (simp; omega))) | (with_reducible assumption))); done))) (by omega); clear hB3)
    all_goals
      go_ret
      exact ⟨_, rfl, HB3.out.own, hW3⟩
set_option maxRecDepth 100000 in
set_option maxHeartbeats 4000000 in
theorem l29Dev_m (x : Nl) (cn cd : List Int) (k : Nat) (d : Dv) (g p q : Nat) (v : Value) (sn sd : Value) (w : World) (h : NlV w v x) (hn : IntSl w sn cn) (hd : IntSl w sd cd) (hx : x.ds[k]? = some d) (hk : k < cd.length) (hk2 : ¬ d.kind = 2) (hpins : d.pins = [(g : Int), (p : Int), (q : Int)]) (hg : g < cn.length) (hp : p < cn.length) (hq : q < cn.length) (hl : x.ds.length ≤ 24) (hcn : cn.length ≤ 24) :
    Calls Try.prog 53 #[v, .agg #[sn, sd], .int .i64 k] w fun e w' => ∃ v', e = .returned v' ∧ OwnR w' w.heap.size w'.heap.size v' ([nmOf cd k, nmOf cn g] ++ dsgT (nmOf cn p) (nmOf cn q)) ∧ Below w.heap.size w w' := by
  obtain ⟨s1, s2, rfl, hD, hP⟩ := h
  obtain ⟨a2, c2, rfl⟩ := hP.sized
  have hkl : k < x.ds.length := (List.getElem?_eq_some_iff.1 hx).1
  rcases hD with ⟨_, _, _, h2⟩ | ⟨b, off, cap, rfl, h2, h3, h4⟩
  · rw [h2] at hkl; simp at hkl
  obtain ⟨sv, e1, e2, e3, e4, hS⟩ := h4 k d hx
  rw [hpins] at hS
  obtain ⟨pb, po, pc, rfl, p0, p1, p2, lp⟩ := hS.three
  obtain ⟨nb, no, nc, rfl, ln, cN⟩ := hn.nm (by omega)
  obtain ⟨db, eo, dc, rfl, ld, cD⟩ := hd.nm (by omega)
  have f1 := cN p hp
  have f2 := cN q hq
  have f3 := cD k hk
  have f0 := cN g hg
  obtain ⟨K, hK⟩ : ∃ K, d.kind = K := ⟨_, rfl⟩
  rw [hK] at e1 hk2
  have hz : (K == 2) = false := by rw [beq_eq_false_iff_ne]; exact hk2
  have i8 : (0 : Int) ≤ (g : Int) := by omega
  have i9 : (g : Int) < (cn.length : Int) := by omega
  have lb := lt_of_cell e1
  dsimp only at lb
  have i1 : (0 : Int) ≤ (k : Int) := by omega
  have i2 : (k : Int) < (x.ds.length : Int) := by omega
  have i3 : (k : Int) < (cd.length : Int) := by omega
  have i4 : (0 : Int) ≤ (p : Int) := by omega
  have i5 : (p : Int) < (cn.length : Int) := by omega
  have i6 : (0 : Int) ≤ (q : Int) := by omega
  have i7 : (q : Int) < (cn.length : Int) := by omega
  have HF := Lib.hid (fun w => l28First_any K d.wd d.len (some ⟨pb, po, none⟩) 1 pc (by omega) w)
  unfold dsgT
  generalize nmOf cn (g : Int) = G at *
  generalize nmOf cn (p : Int) = A at *
  generalize nmOf cn (q : Int) = B at *
  generalize nmOf cd (k : Int) = C at *
  generalize x.ds.length = n1 at *
  generalize x.ps.length = n2 at *
  generalize cn.length = n3 at *
  generalize cd.length = n4 at *
  clear cN cD hn hd hS h4 hP hx hpins h2 h3 hkl hk2
  go_enter Try.func53, Try.ntmps53
  go_upto_region 1 with fail
  go_cut [7] (fun s7 wx => s7 = .pointer (some ⟨w.heap.size + 1 + 1, 0, none⟩) ∧ Blk wx w.heap.size #[.int .i64 x.nets, .slice (some ⟨b, off, none⟩) n1 cap, .slice a2 n2 c2] 35 ∧ Blk wx (w.heap.size + 1) #[.slice (some ⟨nb, no, none⟩) n3 nc, .slice (some ⟨db, eo, none⟩) n4 dc] 37 ∧ Blk wx (w.heap.size + 1 + 1) #[.int .i64 K, .slice (some ⟨pb, po, none⟩) 3 pc, .int .i64 d.wd, .int .i64 d.len] 83 ∧ Below w.heap.size w wx)
  case first =>
    go_wp2_with fail
    go_meet
    exact ⟨rfl, (by ((repeat (first | (with_reducible assumption) | (with_reducible refine Blk.drewN ?_ _) | (with_reducible refine Blk.drew ?_) | ((with_reducible refine Blk.new _ ?_); focus (first | omega | (simp; done) | (simp; omega))) | (with_reducible refine Blk.past ?_ _) | ((with_reducible refine Blk.apart ?_ _ _ _ ?_); rotate_left; focus (first | omega | (simp; done) | (simp; omega))) | (with_reducible refine Blk.by (by assumption) ?_))); done)), (by ((repeat (first | (with_reducible assumption) | (with_reducible refine Blk.drewN ?_ _) | (with_reducible refine Blk.drew ?_) | ((with_reducible refine Blk.new _ ?_); focus (first | omega | (simp; done) | (simp; omega))) | (with_reducible refine Blk.past ?_ _) | ((with_reducible refine Blk.apart ?_ _ _ _ ?_); rotate_left; focus (first | omega | (simp; done) | (simp; omega))) | (with_reducible refine Blk.by (by assumption) ?_))); done)), (by ((repeat (first | (with_reducible assumption) | (with_reducible refine Blk.drewN ?_ _) | (with_reducible refine Blk.drew ?_) | ((with_reducible refine Blk.new _ ?_); focus (first | omega | (simp; done) | (simp; omega))) | (with_reducible refine Blk.past ?_ _) | ((with_reducible refine Blk.apart ?_ _ _ _ ?_); rotate_left; focus (first | omega | (simp; done) | (simp; omega))) | (with_reducible refine Blk.by (by assumption) ?_))); done)), (by ((repeat (first | (with_reducible exact Below.refl _ _) | (with_reducible refine below_drewN ?_ _) | (with_reducible refine Below.drew ?_) | (with_reducible refine below_al ?_ _) | (with_reducible refine below_on (by assumption) ?_) | ((with_reducible refine Below.setCell ?_ ?_ _); rotate_left; focus (first | omega | (simp; done) | (simp; omega))) | (with_reducible assumption))); done))⟩
  case rest =>
    obtain ⟨rfl, kA, kB, kD, hW⟩ := hcut
    have g3 := cell_by' hW f3
    have lD := kD.lt
    have qB := kB.cell
    have hl2 : db < wc.heap.size := by omega
    obtain ⟨we, rfl⟩ : ∃ we, we = wc := ⟨_, rfl⟩
    go_upto_region 2 with fail
    go_cut [8] (fun s8 wx => ∃ e : Nat, s8 = .slice (some ⟨e, 0, none⟩) 1 1 ∧ (w.heap.size + 1 + 1 < e ∧ e < wx.heap.size) ∧ Hid (BldI wx e wx.heap.size (.slice (some ⟨e, 0, none⟩) 1 1) [C]) ∧ Blk wx (w.heap.size + 1) #[.slice (some ⟨nb, no, none⟩) n3 nc, .slice (some ⟨db, eo, none⟩) n4 dc] 37 ∧ Blk wx (w.heap.size + 1 + 1) #[.int .i64 K, .slice (some ⟨pb, po, none⟩) 3 pc, .int .i64 d.wd, .int .i64 d.len] 83 ∧ Below w.heap.size w wx)
    case first =>
      go_wp2_with fail
      go_meet
      exact ⟨we.heap.size, rfl, ⟨by omega, by simp⟩, Lib.hid (BldI.lit (zs := [C]) (Blk.new _ rfl) rfl (by simp) (Nat.le_refl _) (by simp) (Nat.le_refl _)), (by ((repeat (first | (with_reducible assumption) | (with_reducible refine Blk.drewN ?_ _) | (with_reducible refine Blk.drew ?_) | ((with_reducible refine Blk.new _ ?_); focus (first | omega | (simp; done) | (simp; omega))) | (with_reducible refine Blk.past ?_ _) | ((with_reducible refine Blk.apart ?_ _ _ _ ?_); rotate_left; focus (first | omega | (simp; done) | (simp; omega))) | (with_reducible refine Blk.by (by assumption) ?_))); done)), (by ((repeat (first | (with_reducible assumption) | (with_reducible refine Blk.drewN ?_ _) | (with_reducible refine Blk.drew ?_) | ((with_reducible refine Blk.new _ ?_); focus (first | omega | (simp; done) | (simp; omega))) | (with_reducible refine Blk.past ?_ _) | ((with_reducible refine Blk.apart ?_ _ _ _ ?_); rotate_left; focus (first | omega | (simp; done) | (simp; omega))) | (with_reducible refine Blk.by (by assumption) ?_))); done)), (by ((repeat (first | (with_reducible exact Below.refl _ _) | (with_reducible refine below_drewN ?_ _) | (with_reducible refine Below.drew ?_) | (with_reducible refine below_al ?_ _) | (with_reducible refine below_on (by assumption) ?_) | ((with_reducible refine Below.setCell ?_ ?_ _); rotate_left; focus (first | omega | (simp; done) | (simp; omega))) | (with_reducible assumption))); done))⟩
    case rest =>
      clear kA kB kD hW g3 lD qB hl2
      obtain ⟨e, rfl, ⟨he1, he2⟩, HBI, kB, kD, hW⟩ := hcut
      obtain ⟨wd, rfl⟩ : ∃ wd, wd = wc := ⟨_, rfl⟩
      have g0 := cell_by' hW f0
      have r0 := cell_by' hW p0
      have qB := kB.cell
      have qD := kD.cell
      have lD := kD.lt
      have hsz := hW.size
      have hl1 : nb < wd.heap.size := by omega
      have hl3 : pb < wd.heap.size := by omega
      go_wp2_with fail
      go_region_held3 (fun w' => w'.cell? ⟨w.heap.size + 1, 0, none⟩ = some (.slice (some ⟨nb, no, none⟩) n3 nc) ∧ w'.cell? ⟨w.heap.size + 1 + 1, 1, none⟩ = some (.slice (some ⟨pb, po, none⟩) 3 pc) ∧ w'.cell? ⟨pb, po, none⟩ = some (.int .i64 g) ∧ w'.cell? ⟨nb, no + g, none⟩ = some (.int .i64 G))
        (first | exact ⟨kB.cell 0, kD.cell 1, r0, g0⟩ | exact ⟨kB3.cell 0, kD3.cell 1, cell_by' hW3 p0, cell_by' hW3 f0⟩ | go_keep)
        (first | (refine step_pushI (by rfl) _ _ (by rfl) e wd.heap.size (.slice (some ⟨e, 0, none⟩) 1 1) [C] [G] (by rfl) (HBI.out.by (by ((repeat (first | (with_reducible exact Below.refl _ _) | (with_reducible refine below_drewN ?_ _) | (with_reducible refine Below.drew ?_) | (with_reducible refine below_al ?_ _) | (with_reducible refine below_on (by assumption) ?_) | ((with_reducible refine Below.setCell ?_ ?_ _); rotate_left; focus (first | omega | (simp; done) | (simp; omega))) | (with_reducible assumption))); done))) wd.heap.size 1 _ (by rfl) (by rfl) (by omega) (Blk.new _ rfl) (by rfl) (by omega) (by simp) ?_; intro a3 c3 w3 hB3 hw3; have HB3 := Lib.hid hB3; have kB3 : Blk w3 (w.heap.size + 1) #[.slice (some ⟨nb, no, none⟩) n3 nc, .slice (some ⟨db, eo, none⟩) n4 dc] 37 := hw3.blk (by ((repeat (first | (with_reducible assumption) | (with_reducible refine Blk.drewN ?_ _) | (with_reducible refine Blk.drew ?_) | ((with_reducible refine Blk.new _ ?_); focus (first | omega | (simp; done) | (simp; omega))) | (with_reducible refine Blk.past ?_ _) | ((with_reducible refine Blk.apart ?_ _ _ _ ?_); rotate_left; focus (first | omega | (simp; done) | (simp; omega))) | (with_reducible refine Blk.by (by assumption) ?_))); done)) (by omega); have kD3 : Blk w3 (w.heap.size + 1 + 1) #[.int .i64 K, .slice (some ⟨pb, po, none⟩) 3 pc, .int .i64 d.wd, .int .i64 d.len] 83 := hw3.blk (by ((repeat (first | (with_reducible assumption) | (with_reducible refine Blk.drewN ?_ _) | (with_reducible refine Blk.drew ?_) | ((with_reducible refine Blk.new _ ?_); focus (first | omega | (simp; done) | (simp; omega))) | (with_reducible refine Blk.past ?_ _) | ((with_reducible refine Blk.apart ?_ _ _ _ ?_); rotate_left; focus (first | omega | (simp; done) | (simp; omega))) | (with_reducible refine Blk.by (by assumption) ?_))); done)) (by omega); have hW3 : Below w.heap.size w w3 := hw3.below (by ((repeat (first | (with_reducible exact Below.refl _ _) | (with_reducible refine below_drewN ?_ _) | (with_reducible refine Below.drew ?_) | (with_reducible refine below_al ?_ _) | (with_reducible refine below_on (by assumption) ?_) | ((with_reducible refine Below.setCell ?_ ?_ _); rotate_left; focus (first | omega | (simp; done) | (simp; omega))) | (with_reducible assumption))); done)) (by omega); clear hB3))
      have qD3 := kD3.cell
      have lD3 := kD3.lt
      have hs3 := hw3.size
      clear qB qD lD kB kD g0 r0
      go_wp2_with fail
      refine (HF.out _).mono ?_
      rintro e1 w1 ⟨rfl, hb1⟩
      have HB1 := Lib.hid (HB3.out.by hb1)
      have hW1 : Below w.heap.size w w1 := below_on hb1 hW3
      have m1 := cell_by' hW1 f1
      have m2 := cell_by' hW1 f2
      have t1 := cell_by' hW1 p1
      have t2 := cell_by' hW1 p2
      have kB1 := Blk.by hb1 kB3
      have kD1 := Blk.by hb1 kD3
      have qB1 := kB1.cell
      have qD1 := kD1.cell
      have hs1 := hb1.size
      have h31 : e ≤ w3.heap.size := by simp at hs3; omega
      obtain ⟨hi, hhi⟩ : ∃ hi, w3.heap.size = hi := ⟨_, rfl⟩
      have HB2 := Lib.hid (hhi ▸ HB1.out)
      rw [hhi] at h31
      clear hb1 kB3 kD3 hW3 qD3 lD3 hs3 hs1 HB3 HB1 hw3 hhi hW
      go_wp2
      go_quiet (fail)
      go_wp2_with (refine list_pushI (by rfl) _ _ (by rfl) e hi (.slice a3 2 c3) [C, G] [min A B, max A B] (by rfl) (HB2.out.by (by ((repeat (first | (with_reducible exact Below.refl _ _) | (with_reducible refine below_drewN ?_ _) | (with_reducible refine Below.drew ?_) | (with_reducible refine below_al ?_ _) | (with_reducible refine below_on (by assumption) ?_) | ((with_reducible refine Below.setCell ?_ ?_ _); rotate_left; focus (first | omega | (simp; done) | (simp; omega))) | (with_reducible assumption))); done))) w1.heap.size 2 _ (by rfl) (by rfl) (by omega) (Blk.new _ rfl) (by simp [icells] <;> omega) (by omega) (by simp) ?_; intro a4 c4 w4 hB4 hw4; have HB4 := Lib.hid hB4; have hW4 : Below w.heap.size w w4 := hw4.below (by first | exact (by ((repeat (first | (with_reducible exact Below.refl _ _) | (with_reducible refine below_drewN ?_ _) | (with_reducible refine Below.drew ?_) | (with_reducible refine below_al ?_ _) | (with_reducible refine below_on (by assumption) ?_) | ((with_reducible refine Below.setCell ?_ ?_ _); rotate_left; focus (first | omega | (simp; done) | (simp; omega))) | (with_reducible assumption))); done))) (by omega); clear hB4)
      all_goals
        go_ret
        exact ⟨_, rfl, OwnR.wide' HB4.out.own (by omega) (Nat.le_refl _), hW4⟩

theorem l29Device_any (x : Nl) (c : List Int × List Int) (k : Nat) (d : Dv) (v u : Value) (w : World) (h : NlV w v x) (hc : CoV w u c) (hx : x.ds[k]? = some d) (hk : k < c.2.length) (hs : Shp d) (hp : ∀ p ∈ d.pins, 0 ≤ p ∧ p < c.1.length) (hl : x.ds.length ≤ 24) (hcn : c.1.length ≤ 24) :
    Calls Try.prog 53 #[v, u, .int .i64 k] w fun e w' => ∃ v', e = .returned v' ∧ OwnR w' w.heap.size w'.heap.size v' (dsgL d (nmOf c.2 k) c.1) ∧ Below w.heap.size w w' := by
  obtain ⟨s1, s2, rfl, hc1, hc2⟩ := hc
  rcases hs with ⟨k2, p, q, e⟩ | ⟨k2, g, p, q, e⟩
  · rw [dsgL_r k2 e]
    have h1 := hp p (by rw [e]; simp)
    have h2 := hp q (by rw [e]; simp)
    obtain ⟨p', rfl⟩ : ∃ p' : Nat, p = p' := ⟨p.toNat, by omega⟩
    obtain ⟨q', rfl⟩ : ∃ q' : Nat, q = q' := ⟨q.toNat, by omega⟩
    exact l29Dev_r x c.1 c.2 k d p' q' v s1 s2 w h hc1 hc2 hx hk k2 e (by omega) (by omega) hl hcn
  · have hk2 : ¬ d.kind = 2 := by omega
    rw [dsgL_m hk2 e]
    have h0 := hp g (by rw [e]; simp)
    have h1 := hp p (by rw [e]; simp)
    have h2 := hp q (by rw [e]; simp)
    obtain ⟨g', rfl⟩ : ∃ g' : Nat, g = g' := ⟨g.toNat, by omega⟩
    obtain ⟨p', rfl⟩ : ∃ p' : Nat, p = p' := ⟨p.toNat, by omega⟩
    obtain ⟨q', rfl⟩ : ∃ q' : Nat, q = q' := ⟨q.toNat, by omega⟩
    exact l29Dev_m x c.1 c.2 k d g' p' q' v s1 s2 w h hc1 hc2 hx hk hk2 e (by omega) (by omega) (by omega) hl hcn
end Go.Proofs.Ytaiadcfgmichpaa
