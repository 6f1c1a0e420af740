/- The signature of a device: the program's. -/
import Derived.Test.YtaiadcfgmichpaaDsgM
import Derived.BigRegion
import Derived.Deep.DeepCutAuto
import Derived.Deep.RegionHeld3
namespace Go.Proofs.Ytaiadcfgmichpaa
open Go.RowKit
set_option linter.unusedVariables false
set_option linter.unusedSimpArgs false

set_option maxRecDepth 100000 in
set_option maxHeartbeats 8000000 in
theorem dsgDev_r (x : Nl) (cn cd : List Int) (k : Nat) (d : Dv) (p q : Nat) (v : Value) (sn sd : Value) (w : World) (h : NlV w v x) (hn : IntSl w sn cn) (hd : IntSl w sd cd) (hx : x.ds[k]? = some d) (hk : k < cd.length) (hk2 : d.kind = 2) (hpins : d.pins = [(p : Int), (q : Int)]) (hp : p < cn.length) (hq : q < cn.length) (hl : x.ds.length ≤ 24) (hcn : cn.length ≤ 24) :
    Calls Try.prog 58 #[v, .agg #[sn, sd], .int .i64 k] w fun e w' => ∃ v', e = .returned v' ∧ OwnR w' w.heap.size w'.heap.size v' ([nmOf cd k] ++ dsgT (nmOf cn p) (nmOf cn q)) ∧ Below w.heap.size w w' := by
  obtain ⟨s1, s2, rfl, hD, hP⟩ := h
  obtain ⟨a2, c2, rfl⟩ := hP.sized
  have hkl : k < x.ds.length := (List.getElem?_eq_some_iff.1 hx).1
  rcases hD with ⟨_, _, _, h2⟩ | ⟨b, off, cap, rfl, h2, h3, h4⟩
  · rw [h2] at hkl; simp at hkl
  obtain ⟨sv, e1, e2, e3, e4, hS⟩ := h4 k d hx
  rw [hpins] at hS
  obtain ⟨pb, po, pc, rfl, p0, p1, lp⟩ := hS.two
  obtain ⟨nb, no, nc, rfl, ln, cN⟩ := hn.nm (by omega)
  obtain ⟨db, eo, dc, rfl, ld, cD⟩ := hd.nm (by omega)
  have f1 := cN p hp
  have f2 := cN q hq
  have f3 := cD k hk
  rw [hk2] at e1
  have lb := lt_of_cell e1
  dsimp only at lb
  have i1 : (0 : Int) ≤ (k : Int) := by omega
  have i2 : (k : Int) < (x.ds.length : Int) := by omega
  have i3 : (k : Int) < (cd.length : Int) := by omega
  have i4 : (0 : Int) ≤ (p : Int) := by omega
  have i5 : (p : Int) < (cn.length : Int) := by omega
  have i6 : (0 : Int) ≤ (q : Int) := by omega
  have i7 : (q : Int) < (cn.length : Int) := by omega
  have HF := Lib.hid (fun w h => currentPins_any ⟨2, [(p : Int), (q : Int)], d.wd, d.len⟩ (.slice (some ⟨pb, po, none⟩) 2 pc) w h (.inl ⟨rfl, _, _, rfl⟩))
  simp only [curP, curQ] at HF
  have HS := Lib.hid hS
  unfold dsgT
  generalize nmOf cn (p : Int) = A at *
  generalize nmOf cn (q : Int) = B at *
  generalize nmOf cd (k : Int) = C at *
  generalize x.ds.length = n1 at *
  generalize x.ps.length = n2 at *
  generalize cn.length = n3 at *
  generalize cd.length = n4 at *
  clear cN cD hn hd hS h4 hP hx hpins h2 h3 hkl hk2
  go_enter Try.func58, Try.ntmps58
  go_upto_region 0 with fail
  go_cut [3, 4] (fun s3 s4 wx => s3 = .pointer (some ⟨w.heap.size, 0, none⟩) ∧ s4 = .pointer (some ⟨w.heap.size + 1, 0, none⟩) ∧ Blk wx w.heap.size #[.int .i64 x.nets, .slice (some ⟨b, off, none⟩) n1 cap, .slice a2 n2 c2] 35 ∧ Blk wx (w.heap.size + 1) #[.slice (some ⟨nb, no, none⟩) n3 nc, .slice (some ⟨db, eo, none⟩) n4 dc] 37 ∧ Below w.heap.size w wx)
  case first =>
    go_wp2_with fail
    go_meet
    exact ⟨rfl, rfl, (by ((repeat (first | (with_reducible assumption) | (with_reducible refine Blk.drewN ?_ _) | (with_reducible refine Blk.drew ?_) | ((with_reducible refine Blk.new _ ?_); focus (first | omega | (simp; done) | (simp; omega))) | (with_reducible refine Blk.past ?_ _) | ((with_reducible refine Blk.apart ?_ _ _ _ ?_); rotate_left; focus (first | omega | (simp; done) | (simp; omega))) | (with_reducible refine Blk.by (by assumption) ?_))); done)), (by ((repeat (first | (with_reducible assumption) | (with_reducible refine Blk.drewN ?_ _) | (with_reducible refine Blk.drew ?_) | ((with_reducible refine Blk.new _ ?_); focus (first | omega | (simp; done) | (simp; omega))) | (with_reducible refine Blk.past ?_ _) | ((with_reducible refine Blk.apart ?_ _ _ _ ?_); rotate_left; focus (first | omega | (simp; done) | (simp; omega))) | (with_reducible refine Blk.by (by assumption) ?_))); done)), (by ((repeat (first | (with_reducible exact Below.refl _ _) | (with_reducible refine below_drewN ?_ _) | (with_reducible refine Below.drew ?_) | (with_reducible refine below_al ?_ _) | (with_reducible refine below_on (by assumption) ?_) | ((with_reducible refine Below.setCell ?_ ?_ _); rotate_left; focus (first | omega | (simp; done) | (simp; omega))) | (with_reducible assumption))); done))⟩
  case rest =>
    obtain ⟨rfl, rfl, kA, kB, hW⟩ := hcut
    obtain ⟨wb, rfl⟩ : ∃ wb, wb = wc := ⟨_, rfl⟩
    have g1 := cell_by' hW e1
    have g2 := cell_by' hW e2
    have g3 := cell_by' hW e3
    have g4 := cell_by' hW e4
    have g5 := cell_by' hW f3
    have qA := kA.cell 1
    have qB := kB.cell 1
    have lB := kB.lt
    have hl1 : b < wb.heap.size := by omega
    have hl2 : db < wb.heap.size := by omega
    have hl3 : w.heap.size < wb.heap.size := by omega
    have ha1 : b ≠ wb.heap.size ∧ b ≠ wb.heap.size + 1 := by omega
    have ha2 : db ≠ wb.heap.size ∧ db ≠ wb.heap.size + 1 := by omega
    have ha3 : w.heap.size ≠ wb.heap.size ∧ w.heap.size ≠ wb.heap.size + 1 := by omega
    have ha4 : w.heap.size + 1 ≠ wb.heap.size ∧ w.heap.size + 1 ≠ wb.heap.size + 1 := by omega
    go_upto_region 1 with fail
    go_cut [7, 8] (fun s7 s8 wx => ∃ D e : Nat, s7 = .pointer (some ⟨D, 0, none⟩) ∧ s8 = .slice (some ⟨e, 0, none⟩) 1 1 ∧ (w.heap.size + 1 < D ∧ w.heap.size + 1 < e ∧ e < wx.heap.size ∧ D ≠ e) ∧ Hid (BldI wx e (e + 1) (.slice (some ⟨e, 0, none⟩) 1 1) [C]) ∧ Blk wx (w.heap.size + 1) #[.slice (some ⟨nb, no, none⟩) n3 nc, .slice (some ⟨db, eo, none⟩) n4 dc] 37 ∧ Blk wx D #[.int .i64 2, .slice (some ⟨pb, po, none⟩) 2 pc, .int .i64 d.wd, .int .i64 d.len] 83 ∧ Below w.heap.size w wx)
    case first =>
      go_region_held3 (fun w' => w'.cell? ⟨w.heap.size, 1, none⟩ = some (.slice (some ⟨b, off, none⟩) n1 cap) ∧ w'.cell? ⟨w.heap.size + 1, 1, none⟩ = some (.slice (some ⟨db, eo, none⟩) n4 dc) ∧ w'.cell? ⟨b, off + k * 4, none⟩ = some (.int .i64 2) ∧ w'.cell? ⟨b, off + k * 4 + 1, none⟩ = some (.slice (some ⟨pb, po, none⟩) 2 pc) ∧ w'.cell? ⟨b, off + k * 4 + 2, none⟩ = some (.int .i64 d.wd) ∧ w'.cell? ⟨b, off + k * 4 + 3, none⟩ = some (.int .i64 d.len) ∧ w'.cell? ⟨db, eo + k, none⟩ = some (.int .i64 C))
        (first | exact ⟨qA, qB, g1, g2, g3, g4, g5⟩ | go_keep | (have hZ : Below wb.heap.size wb _ := (by ((repeat (first | (with_reducible exact Below.refl _ _) | (with_reducible refine below_drewN ?_ _) | (with_reducible refine Below.drew ?_) | (with_reducible refine below_al ?_ _) | (with_reducible refine below_on (by assumption) ?_) | ((with_reducible refine Below.setCell ?_ ?_ _); rotate_left; focus (first | omega | (simp; done) | (simp; omega))) | (with_reducible assumption))); done)); exact ⟨cell_by' hZ qA, cell_by' hZ qB, cell_by' hZ g1, cell_by' hZ g2, cell_by' hZ g3, cell_by' hZ g4, cell_by' hZ g5⟩) | exact ⟨cell_by' (by ((repeat (first | (with_reducible exact Below.refl _ _) | (with_reducible refine below_drewN ?_ _) | (with_reducible refine Below.drew ?_) | (with_reducible refine below_al ?_ _) | (with_reducible refine below_on (by assumption) ?_) | ((with_reducible refine Below.setCell ?_ ?_ _); rotate_left; focus (first | omega | (simp; done) | (simp; omega))) | (with_reducible assumption))); done)) qA, cell_by' (by ((repeat (first | (with_reducible exact Below.refl _ _) | (with_reducible refine below_drewN ?_ _) | (with_reducible refine Below.drew ?_) | (with_reducible refine below_al ?_ _) | (with_reducible refine below_on (by assumption) ?_) | ((with_reducible refine Below.setCell ?_ ?_ _); rotate_left; focus (first | omega | (simp; done) | (simp; omega))) | (with_reducible assumption))); done)) qB, cell_by' (by ((repeat (first | (with_reducible exact Below.refl _ _) | (with_reducible refine below_drewN ?_ _) | (with_reducible refine Below.drew ?_) | (with_reducible refine below_al ?_ _) | (with_reducible refine below_on (by assumption) ?_) | ((with_reducible refine Below.setCell ?_ ?_ _); rotate_left; focus (first | omega | (simp; done) | (simp; omega))) | (with_reducible assumption))); done)) g1, cell_by' (by ((repeat (first | (with_reducible exact Below.refl _ _) | (with_reducible refine below_drewN ?_ _) | (with_reducible refine Below.drew ?_) | (with_reducible refine below_al ?_ _) | (with_reducible refine below_on (by assumption) ?_) | ((with_reducible refine Below.setCell ?_ ?_ _); rotate_left; focus (first | omega | (simp; done) | (simp; omega))) | (with_reducible assumption))); done)) g2, cell_by' (by ((repeat (first | (with_reducible exact Below.refl _ _) | (with_reducible refine below_drewN ?_ _) | (with_reducible refine Below.drew ?_) | (with_reducible refine below_al ?_ _) | (with_reducible refine below_on (by assumption) ?_) | ((with_reducible refine Below.setCell ?_ ?_ _); rotate_left; focus (first | omega | (simp; done) | (simp; omega))) | (with_reducible assumption))); done)) g3, cell_by' (by ((repeat (first | (with_reducible exact Below.refl _ _) | (with_reducible refine below_drewN ?_ _) | (with_reducible refine Below.drew ?_) | (with_reducible refine below_al ?_ _) | (with_reducible refine below_on (by assumption) ?_) | ((with_reducible refine Below.setCell ?_ ?_ _); rotate_left; focus (first | omega | (simp; done) | (simp; omega))) | (with_reducible assumption))); done)) g4, cell_by' (by ((repeat (first | (with_reducible exact Below.refl _ _) | (with_reducible refine below_drewN ?_ _) | (with_reducible refine Below.drew ?_) | (with_reducible refine below_al ?_ _) | (with_reducible refine below_on (by assumption) ?_) | ((with_reducible refine Below.setCell ?_ ?_ _); rotate_left; focus (first | omega | (simp; done) | (simp; omega))) | (with_reducible assumption))); done)) g5⟩)
        (fail)
      all_goals (go_wp2_with fail; go_meet)
      all_goals
        first
        | exact ⟨wb.heap.size + 1, wb.heap.size, rfl, rfl, ⟨by omega, by omega, (by simp <;> omega), by omega⟩, Lib.hid (BldI.lit (cs := #[.int .i64 C]) (zs := [C]) (by ((repeat (first | (with_reducible assumption) | (with_reducible refine Blk.drewN ?_ _) | (with_reducible refine Blk.drew ?_) | ((with_reducible refine Blk.new _ ?_); focus (first | omega | (simp; done) | (simp; omega))) | (with_reducible refine Blk.past ?_ _) | ((with_reducible refine Blk.apart ?_ _ _ _ ?_); rotate_left; focus (first | omega | (simp; done) | (simp; omega))) | (with_reducible refine Blk.by (by assumption) ?_))); done)) rfl (by simp) (Nat.le_refl _) (by omega) (by simp <;> omega)), (by ((repeat (first | (with_reducible assumption) | (with_reducible refine Blk.drewN ?_ _) | (with_reducible refine Blk.drew ?_) | ((with_reducible refine Blk.new _ ?_); focus (first | omega | (simp; done) | (simp; omega))) | (with_reducible refine Blk.past ?_ _) | ((with_reducible refine Blk.apart ?_ _ _ _ ?_); rotate_left; focus (first | omega | (simp; done) | (simp; omega))) | (with_reducible refine Blk.by (by assumption) ?_))); done)), (by ((repeat (first | (with_reducible assumption) | (with_reducible refine Blk.drewN ?_ _) | (with_reducible refine Blk.drew ?_) | ((with_reducible refine Blk.new _ ?_); focus (first | omega | (simp; done) | (simp; omega))) | (with_reducible refine Blk.past ?_ _) | ((with_reducible refine Blk.apart ?_ _ _ _ ?_); rotate_left; focus (first | omega | (simp; done) | (simp; omega))) | (with_reducible refine Blk.by (by assumption) ?_))); done)), (by ((repeat (first | (with_reducible exact Below.refl _ _) | (with_reducible refine below_drewN ?_ _) | (with_reducible refine Below.drew ?_) | (with_reducible refine below_al ?_ _) | (with_reducible refine below_on (by assumption) ?_) | ((with_reducible refine Below.setCell ?_ ?_ _); rotate_left; focus (first | omega | (simp; done) | (simp; omega))) | (with_reducible assumption))); done))⟩
        | exact ⟨wb.heap.size, wb.heap.size + 1, rfl, rfl, ⟨by omega, by omega, (by simp <;> omega), by omega⟩, Lib.hid (BldI.lit (cs := #[.int .i64 C]) (zs := [C]) (by ((repeat (first | (with_reducible assumption) | (with_reducible refine Blk.drewN ?_ _) | (with_reducible refine Blk.drew ?_) | ((with_reducible refine Blk.new _ ?_); focus (first | omega | (simp; done) | (simp; omega))) | (with_reducible refine Blk.past ?_ _) | ((with_reducible refine Blk.apart ?_ _ _ _ ?_); rotate_left; focus (first | omega | (simp; done) | (simp; omega))) | (with_reducible refine Blk.by (by assumption) ?_))); done)) rfl (by simp) (Nat.le_refl _) (by omega) (by simp <;> omega)), (by ((repeat (first | (with_reducible assumption) | (with_reducible refine Blk.drewN ?_ _) | (with_reducible refine Blk.drew ?_) | ((with_reducible refine Blk.new _ ?_); focus (first | omega | (simp; done) | (simp; omega))) | (with_reducible refine Blk.past ?_ _) | ((with_reducible refine Blk.apart ?_ _ _ _ ?_); rotate_left; focus (first | omega | (simp; done) | (simp; omega))) | (with_reducible refine Blk.by (by assumption) ?_))); done)), (by ((repeat (first | (with_reducible assumption) | (with_reducible refine Blk.drewN ?_ _) | (with_reducible refine Blk.drew ?_) | ((with_reducible refine Blk.new _ ?_); focus (first | omega | (simp; done) | (simp; omega))) | (with_reducible refine Blk.past ?_ _) | ((with_reducible refine Blk.apart ?_ _ _ _ ?_); rotate_left; focus (first | omega | (simp; done) | (simp; omega))) | (with_reducible refine Blk.by (by assumption) ?_))); done)), (by ((repeat (first | (with_reducible exact Below.refl _ _) | (with_reducible refine below_drewN ?_ _) | (with_reducible refine Below.drew ?_) | (with_reducible refine below_al ?_ _) | (with_reducible refine below_on (by assumption) ?_) | ((with_reducible refine Below.setCell ?_ ?_ _); rotate_left; focus (first | omega | (simp; done) | (simp; omega))) | (with_reducible assumption))); done))⟩
    case rest =>
      clear kA kB hW qA qB lB hl1 hl2 hl3 ha1 ha2 ha3 ha4 g1 g2 g3 g4 g5
      obtain ⟨D, e, rfl, rfl, ⟨hD, he1, he2, hDe⟩, HBI, kB, kD, hW⟩ := hcut
      obtain ⟨wd, rfl⟩ : ∃ wd, wd = wc := ⟨_, rfl⟩
      have qB := kB.cell
      have qD := kD.cell
      have lD := kD.lt
      have hsz := hW.size
      go_wp2_with fail
      refine (HF.out _ (HS.out.by (by ((repeat (first | (with_reducible exact Below.refl _ _) | (with_reducible refine below_drewN ?_ _) | (with_reducible refine Below.drew ?_) | (with_reducible refine below_al ?_ _) | (with_reducible refine below_on (by assumption) ?_) | ((with_reducible refine Below.setCell ?_ ?_ _); rotate_left; focus (first | omega | (simp; done) | (simp; omega))) | (with_reducible assumption))); done)))).mono ?_
      rintro e1 w1 ⟨rfl, hb1⟩
      have HB1 := Lib.hid (HBI.out.by hb1)
      have kB1 := Blk.by hb1 kB
      have hW1 := below_on hb1 hW
      have m1 := cell_by' hW1 f1
      have m2 := cell_by' hW1 f2
      have qB1 := kB1.cell 0
      have lB1 := kB1.lt
      have hs1 := hb1.size
      have hl4 : nb < w1.heap.size := by omega
      clear hb1 kB hW qB qD lD
      go_upto_region 5 with fail
      go_region_held3 (fun w' => w'.cell? ⟨w.heap.size + 1, 0, none⟩ = some (.slice (some ⟨nb, no, none⟩) n3 nc) ∧ w'.cell? ⟨nb, no + p, none⟩ = some (.int .i64 A) ∧ w'.cell? ⟨nb, no + q, none⟩ = some (.int .i64 B))
        (first | exact ⟨qB1, m1, m2⟩ | go_keep | exact ⟨kB3.cell 0, cell_by' hW3 f1, cell_by' hW3 f2⟩)
        (first | (refine step_pushI (by rfl) _ _ (by rfl) e (e + 1) (.slice (some ⟨e, 0, none⟩) 1 1) [C] [min A B, max A B] (by rfl) (HB1.out.by (by ((repeat (first | (with_reducible exact Below.refl _ _) | (with_reducible refine below_drewN ?_ _) | (with_reducible refine Below.drew ?_) | (with_reducible refine below_al ?_ _) | (with_reducible refine below_on (by assumption) ?_) | ((with_reducible refine Below.setCell ?_ ?_ _); rotate_left; focus (first | omega | (simp; done) | (simp; omega))) | (with_reducible assumption))); done))) w1.heap.size 2 _ (by rfl) (by rfl) (by omega) (Blk.new _ rfl) (by simp [icells] <;> omega) (by omega) (by simp) ?_; intro a3 c3 w3 hB3 hw3; have HB3 := Lib.hid hB3; have kB3 : Blk w3 (w.heap.size + 1) #[.slice (some ⟨nb, no, none⟩) n3 nc, .slice (some ⟨db, eo, none⟩) n4 dc] 37 := hw3.blk (by ((repeat (first | (with_reducible assumption) | (with_reducible refine Blk.drewN ?_ _) | (with_reducible refine Blk.drew ?_) | ((with_reducible refine Blk.new _ ?_); focus (first | omega | (simp; done) | (simp; omega))) | (with_reducible refine Blk.past ?_ _) | ((with_reducible refine Blk.apart ?_ _ _ _ ?_); rotate_left; focus (first | omega | (simp; done) | (simp; omega))) | (with_reducible refine Blk.by (by assumption) ?_))); done)) (by omega); have hW3 : Below w.heap.size w w3 := hw3.below (by ((repeat (first | (with_reducible exact Below.refl _ _) | (with_reducible refine below_drewN ?_ _) | (with_reducible refine Below.drew ?_) | (with_reducible refine below_al ?_ _) | (with_reducible refine below_on (by assumption) ?_) | ((with_reducible refine Below.setCell ?_ ?_ _); rotate_left; focus (first | omega | (simp; done) | (simp; omega))) | (with_reducible assumption))); done)) (by omega); clear hB3))
      all_goals go_wp2
      all_goals
        go_ret
        exact ⟨_, rfl, OwnR.wide' HB3.out.own (by omega) (Nat.le_refl _), hW3⟩
end Go.Proofs.Ytaiadcfgmichpaa
