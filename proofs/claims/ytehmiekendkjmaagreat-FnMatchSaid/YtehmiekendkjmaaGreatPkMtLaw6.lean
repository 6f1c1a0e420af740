/- Contracts and plain laws, part 6, for the statement's proof. -/
import Derived.Test.YtehmiekendkjmaaGreatPkMtLaw5
import Derived.BigRegion
import Derived.Deep.DeepCutAuto
import Derived.Deep.RegionHeld3
import Derived.Shelf.Abstract
import Derived.BigQuiet
import Derived.Lib.AppendZeros
import Derived.Deep.AppendSrc
import Derived.Lib.AppendZerosOnto
namespace Go.Proofs.YtehmiekendkjmaaGreat
open Go.RowKit
set_option linter.unusedVariables false
set_option linter.unusedSimpArgs false
def dsgT (a b : Int) : List Int := [min a b, max a b]
def dsgL (d : Dv) (ck : Int) (cn : List Int) : List Int := (if d.kind = 2 then [ck] else [ck, nmOf cn (gateOf d.pins)]) ++ dsgT (nmOf cn (curP d.pins)) (nmOf cn (curQ d.pins))
theorem dsgL_r {d : Dv} {p q : Int} (h : d.kind = 2) (hp : d.pins = [p, q]) (ck : Int) (cn : List Int) : dsgL d ck cn = [ck] ++ dsgT (nmOf cn p) (nmOf cn q) := by simp [dsgL, h, hp, curP, curQ]
theorem dsgL_m {d : Dv} {g p q : Int} (h : ¬ d.kind = 2) (hp : d.pins = [g, p, q]) (ck : Int) (cn : List Int) : dsgL d ck cn = [ck, nmOf cn g] ++ dsgT (nmOf cn p) (nmOf cn q) := by simp [dsgL, h, hp, curP, curQ, gateOf]
theorem IntSl.nm {w : World} {sv : Value} {zs : List Int} (h : IntSl w sv zs) (h0 : 0 < zs.length) : ∃ b off cap, sv = .slice (some ⟨b, off, none⟩) zs.length cap ∧ b < w.heap.size ∧ ∀ k : Nat, k < zs.length → w.cell? ⟨b, off + k, none⟩ = some (.int .i64 (nmOf zs k)) := by
  rcases h with ⟨_, _, _, h2⟩ | ⟨b, off, cap, hsv, h2, h3, h4⟩
  · rw [h2] at h0; simp at h0
  have hc : ∀ k : Nat, k < zs.length → w.cell? ⟨b, off + k, none⟩ = some (.int .i64 (nmOf zs k)) := by
    intro k hk
    refine h4 k _ ?_
    simp [nmOf, List.getD_eq_getElem?_getD, List.getElem?_eq_getElem hk]
  refine ⟨b, off, cap, hsv, ?_, hc⟩
  rcases Nat.lt_or_ge b w.heap.size with h' | h'
  · exact h'
  · have := hc 0 h0
    simp [World.cell?, Array.getElem?_eq_none h'] at this
/- The signature of a device: the reference's. -/
/- The signature of a device: the program's. -/
set_option maxRecDepth 100000 in
set_option maxHeartbeats 8000000 in
theorem dsgDev_r (x : Nl) (cn cd : List Int) (k : Nat) (d : Dv) (p q : Nat) (v : Value) (sn sd : Value) (w : World) (h : NlV w v x) (hn : IntSl w sn cn) (hd : IntSl w sd cd) (hx : x.ds[k]? = some d) (hk : k < cd.length) (hk2 : d.kind = 2) (hpins : d.pins = [(p : Int), (q : Int)]) (hp : p < cn.length) (hq : q < cn.length) (hl : x.ds.length ≤ 24) (hcn : cn.length ≤ 24) :
    Calls Tryz.prog 89 #[v, .agg #[sn, sd], .int .i64 k] w fun e w' => ∃ v', e = .returned v' ∧ OwnR w' w.heap.size w'.heap.size v' ([nmOf cd k] ++ dsgT (nmOf cn p) (nmOf cn q)) ∧ Below w.heap.size w w' := by
  obtain ⟨s1, s2, rfl, hD, hP⟩ := h
  obtain ⟨a2, c2, rfl⟩ := hP.sized
  have hkl : k < x.ds.length := (List.getElem?_eq_some_iff.1 hx).1
  rcases hD with ⟨_, _, _, h2⟩ | ⟨b, off, cap, rfl, h2, h3, h4⟩
  · rw [h2] at hkl; simp at hkl
  obtain ⟨sv, e1, e2, e3, e4, hS⟩ := h4 k d hx
  rw [hpins] at hS
  obtain ⟨pb, po, pc, rfl, p0, p1, lp⟩ := hS.two
  obtain ⟨nb, no, nc, rfl, ln, cN⟩ := hn.nm (by omega)
  obtain ⟨db, eo, dc, rfl, ld, cD⟩ := hd.nm (by omega)
  have f1 := cN p hp
  have f2 := cN q hq
  have f3 := cD k hk
  rw [hk2] at e1
  have lb := lt_of_cell e1
  dsimp only at lb
  have i1 : (0 : Int) ≤ (k : Int) := by omega
  have i2 : (k : Int) < (x.ds.length : Int) := by omega
  have i3 : (k : Int) < (cd.length : Int) := by omega
  have i4 : (0 : Int) ≤ (p : Int) := by omega
  have i5 : (p : Int) < (cn.length : Int) := by omega
  have i6 : (0 : Int) ≤ (q : Int) := by omega
  have i7 : (q : Int) < (cn.length : Int) := by omega
  have HF := Lib.hid (fun w h => currentPins_any ⟨2, [(p : Int), (q : Int)], d.wd, d.len⟩ (.slice (some ⟨pb, po, none⟩) 2 pc) w h (.inl ⟨rfl, _, _, rfl⟩))
  simp only [curP, curQ] at HF
  have HS := Lib.hid hS
  unfold dsgT
  generalize nmOf cn (p : Int) = A at *
  generalize nmOf cn (q : Int) = B at *
  generalize nmOf cd (k : Int) = C at *
  generalize x.ds.length = n1 at *
  generalize x.ps.length = n2 at *
  generalize cn.length = n3 at *
  generalize cd.length = n4 at *
  clear cN cD hn hd hS h4 hP hx hpins h2 h3 hkl hk2
  go_enter Tryz.func89, Tryz.ntmps89
  go_upto_region 0 with fail
  go_cut [3, 4] (fun s3 s4 wx => s3 = .pointer (some ⟨w.heap.size, 0, none⟩) ∧ s4 = .pointer (some ⟨w.heap.size + 1, 0, none⟩) ∧ Blk wx w.heap.size #[.int .i64 x.nets, .slice (some ⟨b, off, none⟩) n1 cap, .slice a2 n2 c2] 27 ∧ Blk wx (w.heap.size + 1) #[.slice (some ⟨nb, no, none⟩) n3 nc, .slice (some ⟨db, eo, none⟩) n4 dc] 77 ∧ Below w.heap.size w wx)
  case first =>
    go_wp2_with fail
    go_meet
    exact ⟨rfl, rfl, blkT, blkT, blwT⟩
  case rest =>
    obtain ⟨rfl, rfl, kA, kB, hW⟩ := hcut
    obtain ⟨wb, rfl⟩ : ∃ wb, wb = wc := ⟨_, rfl⟩
    have g1 := cell_by' hW e1
    have g2 := cell_by' hW e2
    have g3 := cell_by' hW e3
    have g4 := cell_by' hW e4
    have g5 := cell_by' hW f3
    have qA := kA.cell 1
    have qB := kB.cell 1
    have lB := kB.lt
    have hl1 : b < wb.heap.size := by omega
    have hl2 : db < wb.heap.size := by omega
    have hl3 : w.heap.size < wb.heap.size := by omega
    have ha1 : b ≠ wb.heap.size ∧ b ≠ wb.heap.size + 1 := by omega
    have ha2 : db ≠ wb.heap.size ∧ db ≠ wb.heap.size + 1 := by omega
    have ha3 : w.heap.size ≠ wb.heap.size ∧ w.heap.size ≠ wb.heap.size + 1 := by omega
    have ha4 : w.heap.size + 1 ≠ wb.heap.size ∧ w.heap.size + 1 ≠ wb.heap.size + 1 := by omega
    go_upto_region 1 with fail
    go_cut [7, 8] (fun s7 s8 wx => ∃ D e : Nat, s7 = .pointer (some ⟨D, 0, none⟩) ∧ s8 = .slice (some ⟨e, 0, none⟩) 1 1 ∧ (w.heap.size + 1 < D ∧ w.heap.size + 1 < e ∧ e < wx.heap.size ∧ D ≠ e) ∧ Hid (BldI wx e (e + 1) (.slice (some ⟨e, 0, none⟩) 1 1) [C]) ∧ Blk wx (w.heap.size + 1) #[.slice (some ⟨nb, no, none⟩) n3 nc, .slice (some ⟨db, eo, none⟩) n4 dc] 77 ∧ Blk wx D #[.int .i64 2, .slice (some ⟨pb, po, none⟩) 2 pc, .int .i64 d.wd, .int .i64 d.len] 54 ∧ Below w.heap.size w wx)
    case first =>
      go_region_held3 (fun w' => w'.cell? ⟨w.heap.size, 1, none⟩ = some (.slice (some ⟨b, off, none⟩) n1 cap) ∧ w'.cell? ⟨w.heap.size + 1, 1, none⟩ = some (.slice (some ⟨db, eo, none⟩) n4 dc) ∧ w'.cell? ⟨b, off + k * 4, none⟩ = some (.int .i64 2) ∧ w'.cell? ⟨b, off + k * 4 + 1, none⟩ = some (.slice (some ⟨pb, po, none⟩) 2 pc) ∧ w'.cell? ⟨b, off + k * 4 + 2, none⟩ = some (.int .i64 d.wd) ∧ w'.cell? ⟨b, off + k * 4 + 3, none⟩ = some (.int .i64 d.len) ∧ w'.cell? ⟨db, eo + k, none⟩ = some (.int .i64 C))
        (first | exact ⟨qA, qB, g1, g2, g3, g4, g5⟩ | go_keep | (have hZ : Below wb.heap.size wb _ := blwT; exact ⟨cell_by' hZ qA, cell_by' hZ qB, cell_by' hZ g1, cell_by' hZ g2, cell_by' hZ g3, cell_by' hZ g4, cell_by' hZ g5⟩) | exact ⟨cell_by' blwT qA, cell_by' blwT qB, cell_by' blwT g1, cell_by' blwT g2, cell_by' blwT g3, cell_by' blwT g4, cell_by' blwT g5⟩)
        (fail)
      all_goals (go_wp2_with fail; go_meet)
      all_goals
        first
        | exact ⟨wb.heap.size + 1, wb.heap.size, rfl, rfl, ⟨by omega, by omega, (by simp <;> omega), by omega⟩, Lib.hid (BldI.lit (cs := #[.int .i64 C]) (zs := [C]) blkT rfl (by simp) (Nat.le_refl _) (by omega) (by simp <;> omega)), blkT, blkT, blwT⟩
        | exact ⟨wb.heap.size, wb.heap.size + 1, rfl, rfl, ⟨by omega, by omega, (by simp <;> omega), by omega⟩, Lib.hid (BldI.lit (cs := #[.int .i64 C]) (zs := [C]) blkT rfl (by simp) (Nat.le_refl _) (by omega) (by simp <;> omega)), blkT, blkT, blwT⟩
    case rest =>
      clear kA kB hW qA qB lB hl1 hl2 hl3 ha1 ha2 ha3 ha4 g1 g2 g3 g4 g5
      obtain ⟨D, e, rfl, rfl, ⟨hD, he1, he2, hDe⟩, HBI, kB, kD, hW⟩ := hcut
      obtain ⟨wd, rfl⟩ : ∃ wd, wd = wc := ⟨_, rfl⟩
      have qB := kB.cell
      have qD := kD.cell
      have lD := kD.lt
      have hsz := hW.size
      go_wp2_with fail
      refine (HF.out _ (HS.out.by blwT)).mono ?_
      rintro e1 w1 ⟨rfl, hb1⟩
      have HB1 := Lib.hid (HBI.out.by hb1)
      have kB1 := Blk.by hb1 kB
      have hW1 := below_on hb1 hW
      have m1 := cell_by' hW1 f1
      have m2 := cell_by' hW1 f2
      have qB1 := kB1.cell 0
      have lB1 := kB1.lt
      have hs1 := hb1.size
      have hl4 : nb < w1.heap.size := by omega
      clear hb1 kB hW qB qD lD
      go_upto_region 5 with fail
      go_region_held3 (fun w' => w'.cell? ⟨w.heap.size + 1, 0, none⟩ = some (.slice (some ⟨nb, no, none⟩) n3 nc) ∧ w'.cell? ⟨nb, no + p, none⟩ = some (.int .i64 A) ∧ w'.cell? ⟨nb, no + q, none⟩ = some (.int .i64 B))
        (first | exact ⟨qB1, m1, m2⟩ | go_keep | exact ⟨kB3.cell 0, cell_by' hW3 f1, cell_by' hW3 f2⟩)
        (first | (refine step_pushI (by rfl) _ _ (by rfl) e (e + 1) (.slice (some ⟨e, 0, none⟩) 1 1) [C] [min A B, max A B] (by rfl) (HB1.out.by blwT) w1.heap.size 2 _ (by rfl) (by rfl) (by omega) (Blk.new _ rfl) (by simp [icells] <;> omega) (by omega) (by simp) ?_; intro a3 c3 w3 hB3 hw3; have HB3 := Lib.hid hB3; have kB3 : Blk w3 (w.heap.size + 1) #[.slice (some ⟨nb, no, none⟩) n3 nc, .slice (some ⟨db, eo, none⟩) n4 dc] 77 := hw3.blk blkT (by omega); have hW3 : Below w.heap.size w w3 := hw3.below blwT (by omega); clear hB3))
      all_goals go_wp2
      all_goals
        go_ret
        exact ⟨_, rfl, OwnR.wide' HB3.out.own (by omega) (Nat.le_refl _), hW3⟩
/- The signature of a device: the program's, of a transistor. -/
set_option maxRecDepth 100000 in
set_option maxHeartbeats 8000000 in
theorem dsgDev_m (x : Nl) (cn cd : List Int) (k : Nat) (d : Dv) (g p q : Nat) (v : Value) (sn sd : Value) (w : World) (h : NlV w v x) (hn : IntSl w sn cn) (hd : IntSl w sd cd) (hx : x.ds[k]? = some d) (hk : k < cd.length) (hk2 : ¬ d.kind = 2) (hk01 : d.kind = 0 ∨ d.kind = 1) (hpins : d.pins = [(g : Int), (p : Int), (q : Int)]) (hg : g < cn.length) (hp : p < cn.length) (hq : q < cn.length) (hl : x.ds.length ≤ 24) (hcn : cn.length ≤ 24) :
    Calls Tryz.prog 89 #[v, .agg #[sn, sd], .int .i64 k] w fun e w' => ∃ v', e = .returned v' ∧ OwnR w' w.heap.size w'.heap.size v' ([nmOf cd k, nmOf cn g] ++ dsgT (nmOf cn p) (nmOf cn q)) ∧ Below w.heap.size w w' := by
  obtain ⟨s1, s2, rfl, hD, hP⟩ := h
  obtain ⟨a2, c2, rfl⟩ := hP.sized
  have hkl : k < x.ds.length := (List.getElem?_eq_some_iff.1 hx).1
  rcases hD with ⟨_, _, _, h2⟩ | ⟨b, off, cap, rfl, h2, h3, h4⟩
  · rw [h2] at hkl; simp at hkl
  obtain ⟨sv, e1, e2, e3, e4, hS⟩ := h4 k d hx
  rw [hpins] at hS
  obtain ⟨pb, po, pc, rfl, p0, p1, p2, lp⟩ := hS.three
  obtain ⟨nb, no, nc, rfl, ln, cN⟩ := hn.nm (by omega)
  obtain ⟨db, eo, dc, rfl, ld, cD⟩ := hd.nm (by omega)
  have f1 := cN p hp
  have f2 := cN q hq
  have f3 := cD k hk
  have f0 := cN g hg
  obtain ⟨K, hK⟩ : ∃ K, d.kind = K := ⟨_, rfl⟩
  rw [hK] at e1 hk2
  have hz : (K == 2) = false := by rw [beq_eq_false_iff_ne]; exact hk2
  have i8 : (0 : Int) ≤ (g : Int) := by omega
  have i9 : (g : Int) < (cn.length : Int) := by omega
  have lb := lt_of_cell e1
  dsimp only at lb
  have i1 : (0 : Int) ≤ (k : Int) := by omega
  have i2 : (k : Int) < (x.ds.length : Int) := by omega
  have i3 : (k : Int) < (cd.length : Int) := by omega
  have i4 : (0 : Int) ≤ (p : Int) := by omega
  have i5 : (p : Int) < (cn.length : Int) := by omega
  have i6 : (0 : Int) ≤ (q : Int) := by omega
  have i7 : (q : Int) < (cn.length : Int) := by omega
  have hs4 : Shp ⟨K, [(g : Int), (p : Int), (q : Int)], d.wd, d.len⟩ := .inr ⟨by rw [← hK]; exact hk01, _, _, _, rfl⟩
  have HF := Lib.hid (fun w h => currentPins_any ⟨K, [(g : Int), (p : Int), (q : Int)], d.wd, d.len⟩ (.slice (some ⟨pb, po, none⟩) 3 pc) w h hs4)
  simp only [curP, curQ] at HF
  have HS := Lib.hid hS
  clear hs4 hk01
  unfold dsgT
  generalize nmOf cn (g : Int) = G at *
  generalize nmOf cn (p : Int) = A at *
  generalize nmOf cn (q : Int) = B at *
  generalize nmOf cd (k : Int) = C at *
  generalize x.ds.length = n1 at *
  generalize x.ps.length = n2 at *
  generalize cn.length = n3 at *
  generalize cd.length = n4 at *
  clear cN cD hn hd hS h4 hP hx hpins h2 h3 hkl hk2
  go_enter Tryz.func89, Tryz.ntmps89
  go_upto_region 0 with fail
  go_cut [3, 4] (fun s3 s4 wx => s3 = .pointer (some ⟨w.heap.size, 0, none⟩) ∧ s4 = .pointer (some ⟨w.heap.size + 1, 0, none⟩) ∧ Blk wx w.heap.size #[.int .i64 x.nets, .slice (some ⟨b, off, none⟩) n1 cap, .slice a2 n2 c2] 27 ∧ Blk wx (w.heap.size + 1) #[.slice (some ⟨nb, no, none⟩) n3 nc, .slice (some ⟨db, eo, none⟩) n4 dc] 77 ∧ Below w.heap.size w wx)
  case first =>
    go_wp2_with fail
    go_meet
    exact ⟨rfl, rfl, blkT, blkT, blwT⟩
  case rest =>
    obtain ⟨rfl, rfl, kA, kB, hW⟩ := hcut
    obtain ⟨wb, rfl⟩ : ∃ wb, wb = wc := ⟨_, rfl⟩
    have g1 := cell_by' hW e1
    have g2 := cell_by' hW e2
    have g3 := cell_by' hW e3
    have g4 := cell_by' hW e4
    have g5 := cell_by' hW f3
    have qA := kA.cell 1
    have qB := kB.cell 1
    have lB := kB.lt
    have hl1 : b < wb.heap.size := by omega
    have hl2 : db < wb.heap.size := by omega
    have hl3 : w.heap.size < wb.heap.size := by omega
    have ha1 : b ≠ wb.heap.size ∧ b ≠ wb.heap.size + 1 := by omega
    have ha2 : db ≠ wb.heap.size ∧ db ≠ wb.heap.size + 1 := by omega
    have ha3 : w.heap.size ≠ wb.heap.size ∧ w.heap.size ≠ wb.heap.size + 1 := by omega
    have ha4 : w.heap.size + 1 ≠ wb.heap.size ∧ w.heap.size + 1 ≠ wb.heap.size + 1 := by omega
    go_upto_region 1 with fail
    go_cut [7, 8] (fun s7 s8 wx => ∃ D e : Nat, s7 = .pointer (some ⟨D, 0, none⟩) ∧ s8 = .slice (some ⟨e, 0, none⟩) 1 1 ∧ (w.heap.size + 1 < D ∧ w.heap.size + 1 < e ∧ e < wx.heap.size ∧ D ≠ e) ∧ Hid (BldI wx e (e + 1) (.slice (some ⟨e, 0, none⟩) 1 1) [C]) ∧ Blk wx (w.heap.size + 1) #[.slice (some ⟨nb, no, none⟩) n3 nc, .slice (some ⟨db, eo, none⟩) n4 dc] 77 ∧ Blk wx D #[.int .i64 K, .slice (some ⟨pb, po, none⟩) 3 pc, .int .i64 d.wd, .int .i64 d.len] 54 ∧ Below w.heap.size w wx)
    case first =>
      go_region_held3 (fun w' => w'.cell? ⟨w.heap.size, 1, none⟩ = some (.slice (some ⟨b, off, none⟩) n1 cap) ∧ w'.cell? ⟨w.heap.size + 1, 1, none⟩ = some (.slice (some ⟨db, eo, none⟩) n4 dc) ∧ w'.cell? ⟨b, off + k * 4, none⟩ = some (.int .i64 K) ∧ w'.cell? ⟨b, off + k * 4 + 1, none⟩ = some (.slice (some ⟨pb, po, none⟩) 3 pc) ∧ w'.cell? ⟨b, off + k * 4 + 2, none⟩ = some (.int .i64 d.wd) ∧ w'.cell? ⟨b, off + k * 4 + 3, none⟩ = some (.int .i64 d.len) ∧ w'.cell? ⟨db, eo + k, none⟩ = some (.int .i64 C))
        (first | exact ⟨qA, qB, g1, g2, g3, g4, g5⟩ | go_keep | (have hZ : Below wb.heap.size wb _ := blwT; exact ⟨cell_by' hZ qA, cell_by' hZ qB, cell_by' hZ g1, cell_by' hZ g2, cell_by' hZ g3, cell_by' hZ g4, cell_by' hZ g5⟩) | exact ⟨cell_by' blwT qA, cell_by' blwT qB, cell_by' blwT g1, cell_by' blwT g2, cell_by' blwT g3, cell_by' blwT g4, cell_by' blwT g5⟩)
        (fail)
      all_goals (go_wp2_with fail; go_meet)
      all_goals
        first
        | exact ⟨wb.heap.size + 1, wb.heap.size, rfl, rfl, ⟨by omega, by omega, (by simp <;> omega), by omega⟩, Lib.hid (BldI.lit (cs := #[.int .i64 C]) (zs := [C]) blkT rfl (by simp) (Nat.le_refl _) (by omega) (by simp <;> omega)), blkT, blkT, blwT⟩
        | exact ⟨wb.heap.size, wb.heap.size + 1, rfl, rfl, ⟨by omega, by omega, (by simp <;> omega), by omega⟩, Lib.hid (BldI.lit (cs := #[.int .i64 C]) (zs := [C]) blkT rfl (by simp) (Nat.le_refl _) (by omega) (by simp <;> omega)), blkT, blkT, blwT⟩
    case rest =>
      clear kA kB hW qA qB lB hl1 hl2 hl3 ha1 ha2 ha3 ha4 g1 g2 g3 g4 g5
      obtain ⟨D, e, rfl, rfl, ⟨hD, he1, he2, hDe⟩, HBI, kB, kD, hW⟩ := hcut
      obtain ⟨wd, rfl⟩ : ∃ wd, wd = wc := ⟨_, rfl⟩
      have qB := kB.cell
      have qD := kD.cell
      have lD := kD.lt
      have hsz := hW.size
      have g0 := cell_by' hW f0
      have r0 := cell_by' hW p0
      have hl1 : nb < wd.heap.size := by omega
      have hl3 : pb < wd.heap.size := by omega
      go_wp2_with fail
      go_region_held3 (fun w' => w'.cell? ⟨w.heap.size + 1, 0, none⟩ = some (.slice (some ⟨nb, no, none⟩) n3 nc) ∧ w'.cell? ⟨D, 1, none⟩ = some (.slice (some ⟨pb, po, none⟩) 3 pc) ∧ w'.cell? ⟨pb, po, none⟩ = some (.int .i64 g) ∧ w'.cell? ⟨nb, no + g, none⟩ = some (.int .i64 G))
        (first | exact ⟨kB.cell 0, kD.cell 1, r0, g0⟩ | exact ⟨kB3.cell 0, kD3.cell 1, cell_by' hW3 p0, cell_by' hW3 f0⟩ | go_keep)
        (first | (refine step_pushI (by rfl) _ _ (by rfl) e (e + 1) (.slice (some ⟨e, 0, none⟩) 1 1) [C] [G] (by rfl) (HBI.out.by blwT) wd.heap.size 1 _ (by rfl) (by rfl) (by omega) (Blk.new _ rfl) (by rfl) (by omega) (by simp) ?_; intro a3 c3 w3 hB3 hw3; have HB3 := Lib.hid hB3; have kB3 : Blk w3 (w.heap.size + 1) #[.slice (some ⟨nb, no, none⟩) n3 nc, .slice (some ⟨db, eo, none⟩) n4 dc] 77 := hw3.blk blkT (by omega); have kD3 : Blk w3 D #[.int .i64 K, .slice (some ⟨pb, po, none⟩) 3 pc, .int .i64 d.wd, .int .i64 d.len] 54 := hw3.blk blkT (by omega); have hW3 : Below w.heap.size w w3 := hw3.below blwT (by omega); clear hB3))
      have qD3 := kD3.cell
      have lD3 := kD3.lt
      have hs3 := hw3.size
      simp only [World.size_alloc, World.size_drew] at hs3
      have hs4 : e ≤ w3.heap.size := by omega
      obtain ⟨hi, hhi⟩ : ∃ hi, w3.heap.size = hi := ⟨_, rfl⟩
      have HB4 := Lib.hid (hhi ▸ HB3.out)
      have hs5 : e ≤ hi := by omega
      have hs6 := hW3.size
      have HHI := Lib.hid hhi
      clear qB qD lD kB kD g0 r0 hs3 hhi HB3 hW HBI hw3
      go_wp2_with fail
      refine (HF.out _ (HS.out.by blwT)).mono ?_
      rintro e1 w1 ⟨rfl, hb1⟩
      have HB1 := Lib.hid (HB4.out.by hb1)
      have kB1 := Blk.by hb1 kB3
      have hW1 := below_on hb1 hW3
      have m1 := cell_by' hW1 f1
      have m2 := cell_by' hW1 f2
      have qB1 := kB1.cell 0
      have lB1 := kB1.lt
      have hs1 := hb1.size
      have hl4 : nb < w1.heap.size := by omega
      clear hb1 kB3 kD3 hW3 qD3 lD3
      go_upto_region 5 with fail
      go_region_held3 (fun w' => w'.cell? ⟨w.heap.size + 1, 0, none⟩ = some (.slice (some ⟨nb, no, none⟩) n3 nc) ∧ w'.cell? ⟨nb, no + p, none⟩ = some (.int .i64 A) ∧ w'.cell? ⟨nb, no + q, none⟩ = some (.int .i64 B))
        (first | exact ⟨qB1, m1, m2⟩ | go_keep | exact ⟨kB4.cell 0, cell_by' hW4 f1, cell_by' hW4 f2⟩)
        (first | (refine step_pushI (by rfl) _ _ (by rfl) e hi (.slice a3 2 c3) [C, G] [min A B, max A B] (by rfl) (HB1.out.by blwT) w1.heap.size 2 _ (by rfl) (by rfl) (by omega) (Blk.new _ rfl) (by simp [icells] <;> omega) (by omega) (by simp) ?_; intro a4 c4 w4 hB4 hw4; have HB5 := Lib.hid hB4; have kB4 : Blk w4 (w.heap.size + 1) #[.slice (some ⟨nb, no, none⟩) n3 nc, .slice (some ⟨db, eo, none⟩) n4 dc] 77 := hw4.blk blkT (by omega); have hW4 : Below w.heap.size w w4 := hw4.below blwT (by omega); clear hB4))
      all_goals go_wp2
      all_goals
        go_ret
        exact ⟨_, rfl, OwnR.wide' HB5.out.own (by omega) (Nat.le_refl _), hW4⟩
/- Both DeviceSignature. -/
theorem dsgDevice_any (x : Nl) (c : List Int × List Int) (k : Nat) (d : Dv) (v u : Value) (w : World) (h : NlV w v x) (hc : CoV w u c) (hx : x.ds[k]? = some d) (hk : k < c.2.length) (hs : Shp d) (hp : ∀ p ∈ d.pins, 0 ≤ p ∧ p < c.1.length) (hl : x.ds.length ≤ 24) (hcn : c.1.length ≤ 24) :
    Calls Tryz.prog 89 #[v, u, .int .i64 k] w fun e w' => ∃ v', e = .returned v' ∧ OwnR w' w.heap.size w'.heap.size v' (dsgL d (nmOf c.2 k) c.1) ∧ Below w.heap.size w w' := by
  obtain ⟨s1, s2, rfl, hc1, hc2⟩ := hc
  rcases hs with ⟨k2, p, q, e⟩ | ⟨k2, g, p, q, e⟩
  · rw [dsgL_r k2 e]
    have h1 := hp p (by rw [e]; simp)
    have h2 := hp q (by rw [e]; simp)
    obtain ⟨p', rfl⟩ : ∃ p' : Nat, p = p' := ⟨p.toNat, by omega⟩
    obtain ⟨q', rfl⟩ : ∃ q' : Nat, q = q' := ⟨q.toNat, by omega⟩
    exact dsgDev_r x c.1 c.2 k d p' q' v s1 s2 w h hc1 hc2 hx hk k2 e (by omega) (by omega) hl hcn
  · have hk2 : ¬ d.kind = 2 := by omega
    rw [dsgL_m hk2 e]
    have h0 := hp g (by rw [e]; simp)
    have h1 := hp p (by rw [e]; simp)
    have h2 := hp q (by rw [e]; simp)
    obtain ⟨g', rfl⟩ : ∃ g' : Nat, g = g' := ⟨g.toNat, by omega⟩
    obtain ⟨p', rfl⟩ : ∃ p' : Nat, p = p' := ⟨p.toNat, by omega⟩
    obtain ⟨q', rfl⟩ : ∃ q' : Nat, q = q' := ⟨q.toNat, by omega⟩
    exact dsgDev_m x c.1 c.2 k d g' p' q' v s1 s2 w h hc1 hc2 hx hk hk2 k2 e (by omega) (by omega) (by omega) hl hcn
set_option maxRecDepth 100000 in
set_option maxHeartbeats 1000000 in
theorem slicesEqual_any (s1 s2 : Value) (xs ys : List Int) (w : World) (h : IntSl w s1 xs) (h' : IntSl w s2 ys) :
    Calls Tryz.prog 43 #[s1, s2] w fun e w' => e = .returned (.bool (decide (xs = ys))) ∧ ∃ n, w' = w.drewN n := by
  have hl1 := h.le
  have hl2 := h'.le
  have HX := Lib.hid h
  have HY := Lib.hid h'
  obtain ⟨a, c, rfl⟩ := h.len
  obtain ⟨a', c', rfl⟩ := h'.len
  clear h h'
  by_cases hl : xs.length = ys.length
  · have HL := Lib.hid hl
    have HEQ := Lib.hid (show (∀ j : Nat, j < xs.length → xs[j]? = ys[j]?) → xs = ys from fun h => List.ext_getElem? (fun i => by
      by_cases hi : i < xs.length
      · exact h i hi
      · rw [List.getElem?_eq_none (by omega), List.getElem?_eq_none (by omega)]))
    have e1 : ((xs.length : Int) != (ys.length : Int)) = false := by simp; omega
    obtain ⟨r, hr⟩ : ∃ r, decide (xs = ys) = r := ⟨_, rfl⟩
    rw [hr]
    have HR := Lib.hid hr
    clear hl hr
    go_enter Tryz.func43, Tryz.ntmps43
    go_wp2
    go_loopw [13] (fun i wr => ∃ k n : Nat, k ≤ xs.length ∧ i = .int .i64 k ∧ Hid (∀ j : Nat, j < k → xs[j]? = ys[j]?) ∧ wr = w.drewN n) (fun i _ => xs.length - (intOf i).toNat)
    case atStart => exact ⟨0, 0, Nat.zero_le _, rfl, Lib.hid (by intro j h; omega), rfl⟩
    case round =>
      obtain ⟨k, n, hk, rfl, HI, rfl⟩ := hrel
      by_cases hlt : k < xs.length
      · obtain ⟨x, hx⟩ : ∃ x, xs[k]? = some x := ⟨xs[k], List.getElem?_eq_getElem hlt⟩
        obtain ⟨y, hy⟩ : ∃ y, ys[k]? = some y := ⟨ys[k]'(by rw [← HL.out]; exact hlt), List.getElem?_eq_getElem _⟩
        rcases HX.out with ⟨_, _, _, h2⟩ | ⟨b, off, cap, he, _, _, hc⟩
        · rw [h2] at hx; simp at hx
        obtain ⟨rfl, rfl⟩ : a = some ⟨b, off, none⟩ ∧ c = cap := by simpa using he
        rcases HY.out with ⟨_, _, _, h2⟩ | ⟨b', off', cap', he', _, _, hc'⟩
        · rw [h2] at hy; simp at hy
        obtain ⟨rfl, rfl⟩ : a' = some ⟨b', off', none⟩ ∧ c' = cap' := by simpa using he'
        have c1 := hc k x hx
        have c2 := hc' k y hy
        have i1 : (0 : Int) ≤ (k : Int) := by omega
        have i2 : (k : Int) < (xs.length : Int) := by omega
        have i3 : (k : Int) < (ys.length : Int) := by have := HL.out; omega
        have HXK := Lib.hid hx
        have HYK := Lib.hid hy
        clear hx hy hc hc' he he'
        by_cases hq : x = y
        · subst hq
          have e2 : (x != x) = false := by simp
          go_wp2
          go_quiet (fail)
          go_wp2
          refine ⟨⟨k + 1, _, by omega, by go_num, Lib.hid (fun j hj => ?_), rfl⟩, by simp [intOf]; omega⟩
          by_cases ej : j = k
          · subst ej; rw [HXK.out, HYK.out]
          · exact HI.out j (by omega)
        · have e2 : (x != y) = true := by simpa using hq
          have hr : r = false := by rw [← HR.out]; simp; intro e; have := HXK.out; rw [e, HYK.out] at this; exact hq (Option.some.inj this).symm
          have HRF := Lib.hid hr
          clear hq hr
          go_wp2
          go_quiet (fail)
          go_wp2
          go_ret
          exact ⟨ret_bool HRF.out.symm, _, by first | rfl | exact World.drewN_drewN _ _ _⟩
      · obtain rfl : k = xs.length := by omega
        have hr : r = true := by rw [← HR.out]; simpa using HEQ.out (fun j hj => HI.out j hj)
        have HRT := Lib.hid hr
        clear hr
        go_wp2
        go_ret
        exact ⟨ret_bool HRT.out.symm, n, rfl⟩
  · have e1 : ((xs.length : Int) != (ys.length : Int)) = true := by simp; omega
    have hne : decide (xs = ys) = false := by simp; intro e; exact hl (by rw [e])
    rw [hne]
    clear hl hne
    go_enter Tryz.func43, Tryz.ntmps43
    go_wp2
    go_ret
    exact ⟨rfl, 0, rfl⟩
set_option maxRecDepth 100000 in
theorem ranks1_any (s1 s2 : Value) (xs ys : List Int) (w : World) (h : IntSl w s1 xs) (h' : IntSl w s2 ys) :
    Calls Tryz.prog 103 #[s1, s2] w fun e w' => e = .returned (.int .i64 (lcmp xs ys)) ∧ ∃ n, w' = w.drewN n := by
  have HC := Lib.hid (slicesCompare_any s1 s2 xs ys w h h')
  obtain ⟨a, c, rfl⟩ := h.len
  obtain ⟨a', c', rfl⟩ := h'.len
  generalize lcmp xs ys = r at *
  clear h h'
  go_enter Tryz.func103, Tryz.ntmps103
  go_wp2_with fail
  refine HC.out.mono ?_
  rintro e w1 ⟨rfl, n, rfl⟩
  go_wp2
  go_ret
  exact ⟨rfl, n, rfl⟩
set_option maxRecDepth 100000 in
theorem ranks2_any (s1 s2 : Value) (xs ys : List Int) (w : World) (h : IntSl w s1 xs) (h' : IntSl w s2 ys) :
    Calls Tryz.prog 105 #[s1, s2] w fun e w' => e = .returned (.bool (decide (xs = ys))) ∧ ∃ n, w' = w.drewN n := by
  have HC := Lib.hid (slicesEqual_any s1 s2 xs ys w h h')
  obtain ⟨a, c, rfl⟩ := h.len
  obtain ⟨a', c', rfl⟩ := h'.len
  generalize decide (xs = ys) = r at *
  clear h h'
  go_enter Tryz.func105, Tryz.ntmps105
  go_wp2_with fail
  refine HC.out.mono ?_
  rintro e w1 ⟨rfl, n, rfl⟩
  go_wp2
  go_ret
  exact ⟨rfl, n, rfl⟩
set_option maxRecDepth 100000 in
theorem ranks3_any (s1 s2 : Value) (xs ys : List Int) (B : Nat) (w : World) (h : IntSl w s1 xs) (h' : IntSl w s2 ys) (hc : w.cell? ⟨B, 0, none⟩ = some s2) :
    Calls Tryz.prog 107 #[s1, .pointer (some ⟨B, 0, none⟩)] w fun e w' => e = .returned (.bool (decide (xs = ys))) ∧ Below w.heap.size w w' := by
  have HC := Lib.hid (slicesEqual_any s1 s2 xs ys w h h')
  have hB := lt_of_cell hc
  dsimp only at hB
  obtain ⟨a, c, rfl⟩ := h.len
  obtain ⟨a', c', rfl⟩ := h'.len
  generalize decide (xs = ys) = r at *
  clear h h'
  go_enter Tryz.func107, Tryz.ntmps107
  go_wp2_with fail
  refine HC.out.mono ?_
  rintro e w1 ⟨rfl, n, rfl⟩
  go_wp2
  go_ret
  exact ⟨rfl, blwT⟩
set_option maxRecDepth 100000 in
set_option maxHeartbeats 1000000 in
theorem indexFuncL_any (g : Nat) (lb : Array Value) (eg : ∀ args w, (callFunc g args).run Tryz.prog w = .ok (.enter g args) w) (p : List Int → Bool) (s0 : Value) (xs : List (List Int)) (w : World) (h : LlSl w s0 xs)
    (hp : ∀ (W : World) (x : List Int) (sv : Value), Below w.heap.size w W → x ∈ xs → IntSl W sv x → Calls Tryz.prog g (#[sv] ++ lb) W fun e w' => e = .returned (.bool (p x)) ∧ Below W.heap.size W w') :
    Calls Tryz.prog 106 #[s0, .func (.func g) #[] lb] w fun e w' => e = .returned (.int .i64 (fidx p xs)) ∧ Below w.heap.size w w' := by
  have HH := Lib.hid (fun k x => @fidx_hit (List Int) p xs k x)
  have HM := Lib.hid (@fidx_miss (List Int) p xs)
  have HP := Lib.hid hp
  clear hp
  rcases h with ⟨a, c, rfl, rfl⟩ | ⟨b, off, cap, rfl, h2, h3, h4⟩
  · have hr := Lib.hid (HM.out (by simp))
    generalize fidx p [] = r at *
    go_enter Tryz.func106, Tryz.ntmps106
    go_wp2
    go_loopw [8] (fun i wr => i = .int .i64 0 ∧ wr = w) (fun _ _ => 0)
    case atStart => exact ⟨rfl, rfl⟩
    case round =>
      obtain ⟨rfl, rfl⟩ := hrel
      go_wp2
      go_ret
      exact ⟨ret_i64 hr.out.symm, Below.refl _ _⟩
  · generalize fidx p xs = r at *
    unfold maxLen at h3
    go_enter Tryz.func106, Tryz.ntmps106
    go_wp2
    go_loopw [5, 8] (fun _ i wr => ∃ k : Nat, k ≤ xs.length ∧ i = .int .i64 k ∧ Hid (∀ j y, j < k → xs[j]? = some y → p y = false) ∧ Below w.heap.size w wr) (fun _ i _ => xs.length - (intOf i).toNat)
    case atStart => exact ⟨0, Nat.zero_le _, rfl, Lib.hid (by intro j y hj; omega), Below.refl _ _⟩
    case round =>
      obtain ⟨k, hk, rfl, HI, hb⟩ := hrel
      by_cases hlt : k < xs.length
      · obtain ⟨x, hx⟩ : ∃ x, xs[k]? = some x := ⟨xs[k], List.getElem?_eq_getElem hlt⟩
        have hmem : x ∈ xs := List.mem_of_getElem? hx
        obtain ⟨sv, c1', hS'⟩ := h4 k x hx
        have c1 := cell_by' hb c1'
        have hS := hS'.by hb
        have hcall := HP.out wr x sv hb hmem hS
        have HX := Lib.hid hx
        have i1 : (0 : Int) ≤ (k : Int) := by omega
        have i2 : (k : Int) < (xs.length : Int) := by omega
        obtain ⟨a1, cc1, rfl⟩ := hS.len
        clear h4 hx c1' hS' hS
        cases hq : p x with
        | true =>
          rw [hq] at hcall
          have HQ := Lib.hid hq
          have HC := Lib.hid hcall
          clear hq hcall
          go_wp2_with (go_at_fn g; refine HC.out.mono ?_; rintro e w1 ⟨rfl, hb1⟩)
          go_ret
          exact ⟨ret_i64 (HH.out k x HX.out HQ.out HI.out).symm, below_on hb1 hb⟩
        | false =>
          rw [hq] at hcall
          have HQ := Lib.hid hq
          have HC := Lib.hid hcall
          clear hq hcall
          go_wp2_with (go_at_fn g; refine HC.out.mono ?_; rintro e w1 ⟨rfl, hb1⟩)
          exact ⟨⟨k + 1, by omega, by go_num, Lib.hid (fun j y hj hy => by
            by_cases e : j = k
            · subst e; obtain rfl : y = x := Option.some.inj (hy.symm.trans HX.out); exact HQ.out
            · exact HI.out j y (by omega) hy), below_on hb1 hb⟩, by simp [intOf]; omega⟩
      · obtain rfl : k = xs.length := by omega
        have hr := Lib.hid (HM.out (fun j y hy => HI.out j y (List.getElem?_eq_some_iff.1 hy).1 hy))
        go_wp2
        go_ret
        exact ⟨ret_i64 hr.out.symm, hb⟩
def BldL (w : World) (lo hi : Nat) (v : Value) (ls : List (List Int)) : Prop := hi ≤ w.heap.size ∧ ∃ (vs : List Value) (f : Nat → Nat), w.ownsRow lo 30 1 v ls.length vs ∧ vs.length = ls.length ∧ (∀ g, v.ownBlock = some g → lo ≤ g ∧ g < hi) ∧
  (∀ i x s, ls[i]? = some x → vs[i]? = some s → OwnR w (f i) (f i + 1) s x ∧ (lo ≤ f i ∧ f i < hi) ∧ v.ownBlock ≠ some (f i))
section
variable {w w' : World} {lo hi : Nat} {v : Value} {ls : List (List Int)}
theorem BldL.by (hb : Below w.heap.size w w') (h : BldL w lo hi v ls) : BldL w' lo hi v ls := by
  obtain ⟨hs, vs, f, h1, h2, h3, h4⟩ := h
  refine ⟨Nat.le_trans hs hb.size, vs, f, row_same h1 (fun g hg => hb.block g (by have := h3 g hg; omega)), h2, h3, fun i x s hx hp => ?_⟩
  obtain ⟨a, b, c⟩ := h4 i x s hx hp
  exact ⟨OwnR.by hb a, b, c⟩
theorem BldL.sized (h : BldL w lo hi v ls) : ∃ a c, v = .slice a ls.length c := by
  obtain ⟨_, vs, f, ⟨_, h1⟩, _⟩ := h
  rcases h1 with ⟨h1, h2⟩ | ⟨g, cap, cur, e1, _⟩
  · exact ⟨none, 0, by rw [h1, h2]⟩
  · exact ⟨_, _, e1⟩
theorem BldL.lit {g : Nat} (h : Blk w g #[] 30) (hlo : lo ≤ g) (hhi : g < hi) (hs : hi ≤ w.heap.size) : BldL w lo hi (.slice (some ⟨g, 0, none⟩) 0 0) [] :=
  ⟨hs, [], fun _ => 0, ⟨rfl, .inr ⟨g, 0, #[], rfl, hlo, h, Nat.le_refl _, by unfold maxLen; omega, rfl, rfl⟩⟩, rfl, (fun g' hg' => by
    have e : g = g' := by injection hg'
    omega), by intro i x s h; simp at h⟩
theorem BldL.ll (h : BldL w lo hi v ls) : LlSl w v ls ∧ ((∃ c, v = .slice none 0 c) ∨ ∃ b c, v = .slice (some ⟨b, 0, none⟩) ls.length c) := by
  obtain ⟨hs, vs, f, ⟨hlen, h1⟩, h2, h3, h4⟩ := h
  rcases h1 with ⟨h1, hn⟩ | ⟨g, cap, cur, e1, e2, e3, e4, e5, e6, e7⟩
  · exact ⟨.inl ⟨_, _, h1, List.eq_nil_of_length_eq_zero hn⟩, .inl ⟨_, h1⟩⟩
  · refine ⟨.inr ⟨g, 0, cap, e1, e4, e5, fun i x hx => ?_⟩, .inr ⟨g, cap, e1⟩⟩
    have hi' : i < ls.length := (List.getElem?_eq_some_iff.1 hx).1
    obtain ⟨s, hsv⟩ : ∃ s, vs[i]? = some s := ⟨vs[i]'(by omega), List.getElem?_eq_getElem (by omega)⟩
    have h6 := hsv
    rw [← e7, List.getElem?_take_of_lt (by omega)] at h6
    have hB : Blk w g cur 30 := e3
    refine ⟨s, ?_, (h4 i x s hx hsv).1.sl⟩
    rw [Nat.zero_add, hB.cell]
    simpa using h6
end
theorem OwnR.pick {w : World} {lo hi : Nat} {s : Value} {xs : List Int} (h : OwnR w lo hi s xs) (hl : lo < hi) : ∃ f, (lo ≤ f ∧ f < hi) ∧ OwnR w f (f + 1) s xs := by
  rcases h with h | ⟨g, cap, cs, h1, h2, h2', h3⟩
  · exact ⟨lo, ⟨Nat.le_refl _, hl⟩, .inl h⟩
  · exact ⟨g, ⟨h2, h2'⟩, .inr ⟨g, cap, cs, h1, Nat.le_refl _, Nat.lt_succ_self _, h3⟩⟩
theorem step_pushL {ops : Array Oper} {o : Oper} {a : Act} {w : World} {K : Act → World → Prop} {Q : Exit → Act → World → Prop} {E : Prop} (hgd : o.guard = none) (s x : Operand)
    (ho : o.op = .call { callee := .builtin .append, args := #[s, x], argTypes := #[75, 75] })
    (lo hi : Nat) (v : Value) (ls : List (List Int)) (hs : a.eval s = v) (hB : BldL w lo hi v ls) (nb : Nat) (d : List Int) (pv : Value) (fb : Nat) (hx : a.eval x = .slice (some ⟨nb, 0, none⟩) 1 1)
    (hnb : Blk w nb #[pv] 30) (hpv : OwnR w fb (fb + 1) pv d) (hlo : lo ≤ hi) (hhi : hi ≤ fb) (hfb : fb < w.heap.size) (hn : ls.length ≤ 1000)
    (hK : ∀ a' c' w', BldL w' lo w'.heap.size (.slice a' (ls.length + 1) c') (ls ++ [d]) → Within lo hi w w' → K (a.put o.dst (.slice a' (ls.length + 1) c')) w') :
    if Region.wanted o (yielded ops a.tmps) = true then Oper.wp Tryz.prog o a w K Q else E := by
  obtain ⟨i0, hi0, hz0, hz1, hz2⟩ := info_parts infoL
  obtain ⟨hsz, vs, f, h1, h2, h3, h4⟩ := hB
  have hone : pv.oneCell' = true := hpv.sl.one
  refine step_append_lies w hgd s x 75 ho lo 30 i0 _ 1 24 Tryz.underlying75 hi0 hz0 hz1 hz2 rfl (by decide) v ls.length _ hs h1 ⟨nb, 0, none⟩ 1 1 [pv] hx rfl (World.news_of_block (cs := #[pv]) hnb) ?_ (by decide) (by unfold maxLen; omega) (by omega) (by omega) w.heap.size rfl ?_
  · intro u hu
    simp at hu
    subst hu
    exact hone
  · intro g cap w' hrow hgrow hg hgl
    have hW : Within lo hi w w' := grown_within hgrow h3
    refine hK (some ⟨g, 0, none⟩) cap w' ⟨Nat.le_refl _, vs ++ [pv], fun i => if i = ls.length then fb else f i, ?_, by simp [h2], ?_, ?_⟩ hW
    · rw [List.length_append, List.length_singleton]; exact hrow
    · intro g' hg'
      have : g = g' := by injection hg'
      subst this
      rcases hg with h | h
      · have := h3 g h; omega
      · omega
    · intro i y pv' hy hp'
      by_cases hi' : i < ls.length
      · rw [List.getElem?_append_left hi'] at hy
        rw [List.getElem?_append_left (by omega)] at hp'
        obtain ⟨a1, b1, c1⟩ := h4 i y pv' hy hp'
        simp only [if_neg (show i ≠ ls.length by omega)]
        have hsep : ∀ g0, v.ownBlock = some g0 → g0 ≠ f i := fun g0 e1 e2 => c1 (by rw [e1, e2])
        refine ⟨?_, by have := hgrow.size; omega, ?_⟩
        · cases hv : v.ownBlock with
          | none => exact OwnR.by ⟨hgrow.os, hgrow.tape, hgrow.output, hgrow.size, fun k hk => hgrow.block k hk (by rw [hv]; simp)⟩ a1
          | some g0 => exact OwnR.past (grown_within (lo := g0) (hi := g0 + 1) hgrow (fun g1 e => by rw [hv] at e; cases e; omega)) a1 (by have := hsep g0 hv; omega)
        · intro e
          have : g = f i := by injection e
          rcases hg with h | h
          · exact hsep g h this
          · omega
      · have hil : i < (ls ++ [d]).length := (List.getElem?_eq_some_iff.1 hy).1
        simp at hil
        obtain rfl : i = ls.length := by omega
        rw [List.getElem?_append_right (Nat.le_refl _)] at hy
        rw [List.getElem?_append_right (by omega)] at hp'
        simp [h2] at hy hp'
        subst hy hp'
        simp only [if_true]
        refine ⟨OwnR.past hW hpv (by omega), by have := hgrow.size; omega, ?_⟩
        intro e
        have : g = fb := by injection e
        rcases hg with h | h
        · have := h3 g h; omega
        · omega
theorem list_pushL {ops : Array Oper} {rest : List Oper} {o : Oper} {a : Act} {w : World} {Q : Exit → Act → World → Prop} (hgd : o.guard = none) (s x : Operand)
    (ho : o.op = .call { callee := .builtin .append, args := #[s, x], argTypes := #[75, 75] })
    (lo hi : Nat) (v : Value) (ls : List (List Int)) (hs : a.eval s = v) (hB : BldL w lo hi v ls) (nb : Nat) (d : List Int) (pv : Value) (fb : Nat) (hx : a.eval x = .slice (some ⟨nb, 0, none⟩) 1 1)
    (hnb : Blk w nb #[pv] 30) (hpv : OwnR w fb (fb + 1) pv d) (hlo : lo ≤ hi) (hhi : hi ≤ fb) (hfb : fb < w.heap.size) (hn : ls.length ≤ 1000)
    (hK : ∀ a' c' w', BldL w' lo w'.heap.size (.slice a' (ls.length + 1) c') (ls ++ [d]) → Within lo hi w w' → wpList Tryz.prog ops Q rest (a.put o.dst (.slice a' (ls.length + 1) c')) w') : wpList Tryz.prog ops Q (o :: rest) a w :=
  wpList_plain hgd fun K hk => by
    have h := step_pushL (ops := ops) (K := K) (Q := Q) (E := False) hgd s x ho lo hi v ls hs hB nb d pv fb hx hnb hpv hlo hhi hfb hn (fun a' c' w' h1 h2 => hk _ _ (hK a' c' w' h1 h2))
    rwa [if_pos (by simp [Region.wanted, hgd])] at h
def portTo (ps : List Pt) (net : Int) (k : Nat) : List Int := ((List.range k).filter fun i : Nat => match ps[i]? with | some p => decide (p.net = net) | none => false).map fun i : Nat => (i : Int)
theorem portTo_step (ps : List Pt) (net : Int) (k : Nat) (p : Pt) (h : ps[k]? = some p) : portTo ps net (k + 1) = portTo ps net k ++ (if p.net = net then [(k : Int)] else []) := by
  unfold portTo
  rw [List.range_succ, List.filter_append, List.map_append]
  congr 1
  by_cases e : p.net = net <;> simp [h, e]
theorem portTo_len (ps : List Pt) (net : Int) (k : Nat) : (portTo ps net k).length ≤ k := by
  unfold portTo
  rw [List.length_map]
  have := List.length_filter_le (fun i : Nat => match ps[i]? with | some p => decide (p.net = net) | none => false) (List.range k)
  simpa using this
def netL (x : Nl) (n : Nat) : List (List Int) := (List.range n).map fun j : Nat => portTo x.ps (j : Int) x.ps.length
def devL (ds : List Dv) : List (List Int) := ds.map fun d => [d.kind, d.wd, d.len]
def iniS (x : Nl) : List Int × List Int := (rankS (netL x x.nets.toNat), rankS (devL x.ds))
theorem length_netL (x : Nl) (n : Nat) : (netL x n).length = n := by simp [netL]
theorem length_devL (ds : List Dv) : (devL ds).length = ds.length := by simp [devL]
theorem make_lists (n : Nat) (hn : n ≤ 1048576) (w : World) : ∃ cs : Array Value, cs.size = n ∧ (∀ i, i < n → cs[i]? = some (Value.slice none 0 0)) ∧ (Instr.makeSlice 75 (.int .i64 n) (.int .i64 n)).run Tryz.prog w = .ok (.slice (some ⟨w.heap.size, 0, none⟩) n n) (w.alloc (.cells cs 30)) := by
  obtain ⟨i0, hi, hz0, hz1, hz2⟩ := info_parts infoL
  have h := run_make (P := Tryz.prog) w 75 30 i0 _ Tryz.underlying75 hi hz0 .i64 .i64 (n : Int) (n : Int) (by omega) (by omega) (by rw [hz2]; omega) (by omega)
  simp only [Int.toNat_natCast, hz1, Nat.mul_one] at h
  refine ⟨_, size_madeCells _ _, fun i hi => ?_, h⟩
  simp [madeCells, hi, Value.cells, Nat.mod_one]
theorem step_pushG {ops : Array Oper} {o : Oper} {a : Act} {w : World} {K : Act → World → Prop} {Q : Exit → Act → World → Prop} {E : Prop} (hgd : o.guard = none) (s x : Operand)
    (ho : o.op = .call { callee := .builtin .append, args := #[s, x], argTypes := #[30, 30] })
    (lo hi : Nat) (v : Value) (zs ys : List Int) (hs : a.eval s = v) (hB : BldI w lo hi v zs) (nb m : Nat) (cs : Array Value) (hx : a.eval x = .slice (some ⟨nb, 0, none⟩) m m) (hys : ys.length = m) (hm : 0 < m)
    (hnb : Blk w nb cs 2) (hcs : cs.toList = icells ys) (hlo : lo ≤ hi) (hn : zs.length + m ≤ 8000000)
    (hK : ∀ g c' w', BldI w' lo w'.heap.size (.slice (some ⟨g, 0, none⟩) (zs.length + m) c') (zs ++ ys) → (∀ k, k < w.heap.size → v.ownBlock ≠ some k → w'.heap[k]? = w.heap[k]?) → (v.ownBlock = some g ∨ w.heap.size ≤ g) → Within lo hi w w' → K (a.put o.dst (.slice (some ⟨g, 0, none⟩) (zs.length + m) c')) w') :
    if Region.wanted o (yielded ops a.tmps) = true then Oper.wp Tryz.prog o a w K Q else E := by
  obtain ⟨i0, hi0, hz0, hz1, hz2⟩ := info_parts infoI
  obtain ⟨hsz, h1, h3⟩ := hB
  refine step_append_lies w hgd s x 30 ho lo 2 i0 _ 1 8 Tryz.underlying30 hi0 hz0 hz1 hz2 rfl (by decide) v zs.length _ hs h1 ⟨nb, 0, none⟩ m m (icells ys) hx (by simp [icells, hys]) (by rw [← hcs]; exact World.news_of_block (cs := cs) hnb) ?_ hm (by unfold maxLen; omega) (by omega) (by omega) w.heap.size rfl ?_
  · intro u hu
    simp only [icells, List.mem_map] at hu
    obtain ⟨_, _, rfl⟩ := hu
    rfl
  · intro g cap w' hrow hgrow hg hgl
    have hW : Within lo hi w w' := grown_within hgrow h3
    refine hK g cap w' ⟨Nat.le_refl _, ?_, ?_⟩ (fun k hk hne => hgrow.block k hk (fun e => hne e.symm)) (hg.imp id (fun e => by omega)) hW
    · rw [List.length_append, hys, icells_push]; exact hrow
    · intro g' hg'
      have : g = g' := by injection hg'
      subst this
      rcases hg with h | h
      · have := h3 g h; omega
      · omega
def NetsI (w : World) (N L m : Nat) (lst : Nat → List Int) : Prop := ∃ (cs : Array Value) (vs : Nat → Value), Blk w N cs 30 ∧ cs.size = m ∧ (∀ j, j < m → cs[j]? = some (vs j) ∧ BldI w L w.heap.size (vs j) (lst j)) ∧
  (∀ i j, i < m → j < m → i ≠ j → ∀ g, (vs i).ownBlock = some g → (vs j).ownBlock ≠ some g)
theorem BldI.wideN {w : World} {lo hi hi' : Nat} {v : Value} {zs : List Int} (h : BldI w lo hi v zs) (h1 : hi ≤ hi') (h2 : hi' ≤ w.heap.size) : BldI w lo hi' v zs :=
  ⟨h2, h.2.1, fun g hg => by have := h.2.2 g hg; omega⟩
theorem NetsI.by {w w' : World} {N L m : Nat} {lst : Nat → List Int} (hb : Below w.heap.size w w') (h : NetsI w N L m lst) : NetsI w' N L m lst := by
  obtain ⟨cs, vs, h1, h2, h3, h4⟩ := h
  exact ⟨cs, vs, Blk.by hb h1, h2, fun j hj => ⟨(h3 j hj).1, ((h3 j hj).2.by hb).wideN hb.size (Nat.le_refl _)⟩, h4⟩
theorem NetsI.ll {w : World} {N L m : Nat} {lst : Nat → List Int} (h : NetsI w N L m lst) (hm : m ≤ 1000) : LlSl w (.slice (some ⟨N, 0, none⟩) m m) ((List.range m).map lst) := by
  obtain ⟨cs, vs, h1, h2, h3, h4⟩ := h
  refine .inr ⟨N, 0, m, by simp, by simp, by unfold maxLen; omega, fun i x hx => ?_⟩
  have hi : i < m := by have := (List.getElem?_eq_some_iff.1 hx).1; simpa using this
  rw [List.getElem?_map, List.getElem?_range hi] at hx
  simp only [Option.map_some, Option.some.injEq] at hx
  subst hx
  exact ⟨vs i, by rw [Nat.zero_add, h1.cell]; exact (h3 i hi).1, (h3 i hi).2.own.sl⟩
theorem NetsI.grow {w w' : World} {N L m j g cap : Nat} {lst lst' : Nat → List Int} {cs : Array Value} {vs : Nat → Value} (h1 : Blk w N cs 30) (h2 : cs.size = m) (h3 : ∀ j, j < m → cs[j]? = some (vs j) ∧ BldI w L w.heap.size (vs j) (lst j))
    (h4 : ∀ i j, i < m → j < m → i ≠ j → ∀ g, (vs i).ownBlock = some g → (vs j).ownBlock ≠ some g) (hj : j < m) (hN : N < L)
    (hg : BldI w' L w'.heap.size (.slice (some ⟨g, 0, none⟩) (lst' j).length cap) (lst' j)) (hk : ∀ k, k < w.heap.size → (vs j).ownBlock ≠ some k → w'.heap[k]? = w.heap[k]?) (ho : (vs j).ownBlock = some g ∨ w.heap.size ≤ g) (hs : w.heap.size ≤ w'.heap.size)
    (hl : ∀ i, i ≠ j → lst' i = lst i) : NetsI (w'.setCell ⟨N, j, none⟩ (.slice (some ⟨g, 0, none⟩) (lst' j).length cap)) N L m lst' := by
  have hNb : (vs j).ownBlock ≠ some N := fun e => by have := (h3 j hj).2.2.2 N e; omega
  have hB' : Blk w' N cs 30 := (hk N h1.lt hNb).trans h1
  have hW : Within N (N + 1) w' (w'.setCell ⟨N, j, none⟩ (.slice (some ⟨g, 0, none⟩) (lst' j).length cap)) := Within.off _
  refine ⟨cs.setIfInBounds j (.slice (some ⟨g, 0, none⟩) (lst' j).length cap), fun i => if i = j then .slice (some ⟨g, 0, none⟩) (lst' j).length cap else vs i, hB'.set j _, by simp [h2], fun i hi => ?_, fun a b ha hb hab g' hg' => ?_⟩
  · by_cases e : i = j
    · subst e
      simp only [if_true]
      refine ⟨by rw [Array.getElem?_setIfInBounds, if_pos rfl, if_pos (by omega)], ?_⟩
      have := BldI.past hW hg (.inl (by omega))
      simpa using this
    · simp only [if_neg e]
      refine ⟨by rw [Array.getElem?_setIfInBounds, if_neg (fun h => e h.symm)]; exact (h3 i hi).1, ?_⟩
      rw [hl i e]
      obtain ⟨c1, c2, c3⟩ := (h3 i hi).2
      have hB1 : BldI w' L w'.heap.size (vs i) (lst i) := ⟨Nat.le_refl _, row_same c2 (fun g0 e0 => hk g0 (by have := c3 g0 e0; omega) (fun e1 => h4 i j hi hj e g0 e0 e1)), fun g0 e0 => by have := c3 g0 e0; omega⟩
      have := BldI.past hW hB1 (.inl (by omega))
      simpa using this
  · by_cases e1 : a = j
    · subst e1
      have e2 : b ≠ a := fun h => hab h.symm
      simp only [if_true, if_neg e2] at hg' ⊢
      have hgg : g = g' := by injection hg'
      subst hgg
      intro e3
      rcases ho with h | h
      · exact h4 a b ha hb hab g h e3
      · have := (h3 b hb).2.2.2 g e3; omega
    · simp only [if_neg e1] at hg'
      by_cases e2 : b = j
      · subst e2
        simp only [if_true]
        intro e3
        have hgg : g = g' := by injection e3
        subst hgg
        rcases ho with h | h
        · exact h4 a b ha hb hab g hg' h
        · have := (h3 a ha).2.2.2 g hg'; omega
      · simp only [if_neg e2]
        exact h4 a b ha hb hab g' hg'
theorem step_pushLG {ops : Array Oper} {o : Oper} {a : Act} {w : World} {K : Act → World → Prop} {Q : Exit → Act → World → Prop} {E : Prop} (hgd : o.guard = none) (s x : Operand)
    (ho : o.op = .call { callee := .builtin .append, args := #[s, x], argTypes := #[75, 75] })
    (lo hi : Nat) (v : Value) (ls : List (List Int)) (hs : a.eval s = v) (hB : BldL w lo hi v ls) (nb : Nat) (d : List Int) (pv : Value) (fb : Nat) (hx : a.eval x = .slice (some ⟨nb, 0, none⟩) 1 1)
    (hnb : Blk w nb #[pv] 30) (hpv : OwnR w fb (fb + 1) pv d) (hlo : lo ≤ hi) (hhi : hi ≤ fb) (hfb : fb < w.heap.size) (hn : ls.length ≤ 1000)
    (hK : ∀ g c' w', BldL w' lo w'.heap.size (.slice (some ⟨g, 0, none⟩) (ls.length + 1) c') (ls ++ [d]) → (∀ k, k < w.heap.size → v.ownBlock ≠ some k → w'.heap[k]? = w.heap[k]?) → (v.ownBlock = some g ∨ w.heap.size ≤ g) → Within lo hi w w' → K (a.put o.dst (.slice (some ⟨g, 0, none⟩) (ls.length + 1) c')) w') :
    if Region.wanted o (yielded ops a.tmps) = true then Oper.wp Tryz.prog o a w K Q else E := by
  obtain ⟨i0, hi0, hz0, hz1, hz2⟩ := info_parts infoL
  obtain ⟨hsz, vs, f, h1, h2, h3, h4⟩ := hB
  have hone : pv.oneCell' = true := hpv.sl.one
  refine step_append_lies w hgd s x 75 ho lo 30 i0 _ 1 24 Tryz.underlying75 hi0 hz0 hz1 hz2 rfl (by decide) v ls.length _ hs h1 ⟨nb, 0, none⟩ 1 1 [pv] hx rfl (World.news_of_block (cs := #[pv]) hnb) ?_ (by decide) (by unfold maxLen; omega) (by omega) (by omega) w.heap.size rfl ?_
  · intro u hu
    simp at hu
    subst hu
    exact hone
  · intro g cap w' hrow hgrow hg hgl
    have hW : Within lo hi w w' := grown_within hgrow h3
    refine hK g cap w' ⟨Nat.le_refl _, vs ++ [pv], fun i => if i = ls.length then fb else f i, ?_, by simp [h2], ?_, ?_⟩ (fun k hk hne => hgrow.block k hk (fun e => hne e.symm)) (hg.imp id (fun e => by omega)) hW
    · rw [List.length_append, List.length_singleton]; exact hrow
    · intro g' hg'
      have : g = g' := by injection hg'
      subst this
      rcases hg with h | h
      · have := h3 g h; omega
      · omega
    · intro i y pv' hy hp'
      by_cases hi' : i < ls.length
      · rw [List.getElem?_append_left hi'] at hy
        rw [List.getElem?_append_left (by omega)] at hp'
        obtain ⟨a1, b1, c1⟩ := h4 i y pv' hy hp'
        simp only [if_neg (show i ≠ ls.length by omega)]
        have hsep : ∀ g0, v.ownBlock = some g0 → g0 ≠ f i := fun g0 e1 e2 => c1 (by rw [e1, e2])
        refine ⟨?_, by have := hgrow.size; omega, ?_⟩
        · cases hv : v.ownBlock with
          | none => exact OwnR.by ⟨hgrow.os, hgrow.tape, hgrow.output, hgrow.size, fun k hk => hgrow.block k hk (by rw [hv]; simp)⟩ a1
          | some g0 => exact OwnR.past (grown_within (lo := g0) (hi := g0 + 1) hgrow (fun g1 e => by rw [hv] at e; cases e; omega)) a1 (by have := hsep g0 hv; omega)
        · intro e
          have : g = f i := by injection e
          rcases hg with h | h
          · exact hsep g h this
          · omega
      · have hil : i < (ls ++ [d]).length := (List.getElem?_eq_some_iff.1 hy).1
        simp at hil
        obtain rfl : i = ls.length := by omega
        rw [List.getElem?_append_right (Nat.le_refl _)] at hy
        rw [List.getElem?_append_right (by omega)] at hp'
        simp [h2] at hy hp'
        subst hy hp'
        simp only [if_true]
        refine ⟨OwnR.past hW hpv (by omega), by have := hgrow.size; omega, ?_⟩
        intro e
        have : g = fb := by injection e
        rcases hg with h | h
        · have := h3 g h; omega
        · omega
theorem list_pushLG {ops : Array Oper} {rest : List Oper} {o : Oper} {a : Act} {w : World} {Q : Exit → Act → World → Prop} (hgd : o.guard = none) (s x : Operand)
    (ho : o.op = .call { callee := .builtin .append, args := #[s, x], argTypes := #[75, 75] })
    (lo hi : Nat) (v : Value) (ls : List (List Int)) (hs : a.eval s = v) (hB : BldL w lo hi v ls) (nb : Nat) (d : List Int) (pv : Value) (fb : Nat) (hx : a.eval x = .slice (some ⟨nb, 0, none⟩) 1 1)
    (hnb : Blk w nb #[pv] 30) (hpv : OwnR w fb (fb + 1) pv d) (hlo : lo ≤ hi) (hhi : hi ≤ fb) (hfb : fb < w.heap.size) (hn : ls.length ≤ 1000)
    (hK : ∀ g c' w', BldL w' lo w'.heap.size (.slice (some ⟨g, 0, none⟩) (ls.length + 1) c') (ls ++ [d]) → (∀ k, k < w.heap.size → v.ownBlock ≠ some k → w'.heap[k]? = w.heap[k]?) → (v.ownBlock = some g ∨ w.heap.size ≤ g) → Within lo hi w w' → wpList Tryz.prog ops Q rest (a.put o.dst (.slice (some ⟨g, 0, none⟩) (ls.length + 1) c')) w') : wpList Tryz.prog ops Q (o :: rest) a w :=
  wpList_plain hgd fun K hk => by
    have h := step_pushLG (ops := ops) (K := K) (Q := Q) (E := False) hgd s x ho lo hi v ls hs hB nb d pv fb hx hnb hpv hlo hhi hfb hn (fun a' c' w' h1 h2 h3 h4 => hk _ _ (hK a' c' w' h1 h2 h3 h4))
    rwa [if_pos (by simp [Region.wanted, hgd])] at h
theorem NetsI.off {w w' : World} {N m : Nat} {lst : Nat → List Int} (h : NetsI w N (N + 2) m lst) (ho : Off (N + 1) w w') (hs : w.heap.size ≤ w'.heap.size) : NetsI w' N (N + 2) m lst := by
  obtain ⟨cs, vs, h1, h2, h3, h4⟩ := h
  refine ⟨cs, vs, (ho N h1.lt (by omega)).trans h1, h2, fun j hj => ⟨(h3 j hj).1, ?_⟩, h4⟩
  obtain ⟨c1, c2, c3⟩ := (h3 j hj).2
  exact ⟨Nat.le_refl _, row_same c2 (fun g0 e0 => ho g0 (by have := c3 g0 e0; omega) (by have := c3 g0 e0; omega)), fun g0 e0 => by have := c3 g0 e0; omega⟩
theorem Off.blk {w w' : World} {b g : Nat} {cs : Array Value} {T : TypeId} (ho : Off b w w') (h : Blk w g cs T) (hne : g ≠ b) : Blk w' g cs T := (ho g h.lt hne).trans h
/- A block of rows of slices, each growing in memory of its own; the rows' elements lie in blocks of P, which are never written again. -/
theorem OwnR.same {w w' : World} {lo hi : Nat} {sv : Value} {zs : List Int} (h : OwnR w lo hi sv zs) (hb : ∀ g, lo ≤ g → g < hi → w'.heap[g]? = w.heap[g]?) : OwnR w' lo hi sv zs := by
  rcases h with h | ⟨g, cap, cs, e1, e2, e3, e4, e5, e6, e7⟩
  · exact .inl h
  · exact .inr ⟨g, cap, cs, e1, e2, e3, e4, e5, (hb g e2 e3).trans e6, e7⟩
def RowE (w : World) (L : Nat) (P : Nat → Prop) (v : Value) (ls : List (List Int)) : Prop := ∃ vs : List Value, w.ownsRow L 30 1 v ls.length vs ∧ vs.length = ls.length ∧ (∀ g, v.ownBlock = some g → L ≤ g ∧ g < w.heap.size ∧ ¬ P g) ∧
  ∀ (i : Nat) x s, ls[i]? = some x → vs[i]? = some s → ∃ f, P f ∧ f < w.heap.size ∧ OwnR w f (f + 1) s x
section
variable {w w' : World} {L : Nat} {P P' : Nat → Prop} {v : Value} {ls : List (List Int)}
theorem RowE.nil (w : World) (L : Nat) (P : Nat → Prop) : RowE w L P (.slice none 0 0) [] :=
  ⟨[], World.ownsRow_nil w L _ 1, rfl, fun g h => (by cases h), fun i x s hx _ => (by simp at hx)⟩
theorem RowE.off (h : RowE w L P v ls) (hs : w.heap.size ≤ w'.heap.size) (hb : ∀ k, k < w.heap.size → (P k ∨ v.ownBlock = some k) → w'.heap[k]? = w.heap[k]?) : RowE w' L P v ls := by
  obtain ⟨vs, h1, h2, h3, h4⟩ := h
  refine ⟨vs, row_same h1 (fun g hg => hb g (h3 g hg).2.1 (.inr hg)), h2, fun g hg => ⟨(h3 g hg).1, by have := (h3 g hg).2.1; omega, (h3 g hg).2.2⟩, fun i x s hx hp => ?_⟩
  obtain ⟨f, f1, f2, f3⟩ := h4 i x s hx hp
  refine ⟨f, f1, by omega, f3.same fun g g1 g2 => ?_⟩
  obtain rfl : g = f := by omega
  exact hb g f2 (.inl f1)
theorem RowE.more (h : RowE w L P v ls) (h1 : ∀ k, P k → P' k) (h2 : ∀ k, k < w.heap.size → P' k → P k) : RowE w L P' v ls := by
  obtain ⟨vs, a1, a2, a3, a4⟩ := h
  refine ⟨vs, a1, a2, fun g hg => ⟨(a3 g hg).1, (a3 g hg).2.1, fun hp => (a3 g hg).2.2 (h2 g (a3 g hg).2.1 hp)⟩, fun i x s hx hp => ?_⟩
  obtain ⟨f, f1, f2, f3⟩ := a4 i x s hx hp
  exact ⟨f, h1 f f1, f2, f3⟩
theorem RowE.sized (h : RowE w L P v ls) : ∃ a c, v = .slice a ls.length c := by
  obtain ⟨_, ⟨_, h1⟩, _⟩ := h
  rcases h1 with ⟨h1, h2⟩ | ⟨g, cap, cur, e1, _⟩
  · exact ⟨none, 0, by rw [h1, h2]⟩
  · exact ⟨_, _, e1⟩
end
theorem step_pushB {ops : Array Oper} {o : Oper} {a : Act} {w : World} {K : Act → World → Prop} {Q : Exit → Act → World → Prop} {E : Prop} (hgd : o.guard = none) (s x : Operand)
    (ho : o.op = .call { callee := .builtin .append, args := #[s, x], argTypes := #[75, 75] })
    (L : Nat) (P : Nat → Prop) (v : Value) (ls : List (List Int)) (hs : a.eval s = v) (hB : RowE w L P v ls) (nb : Nat) (d : List Int) (pv : Value) (fb : Nat) (hx : a.eval x = .slice (some ⟨nb, 0, none⟩) 1 1)
    (hnb : Blk w nb #[pv] 30) (hpv : OwnR w fb (fb + 1) pv d) (hfb : P fb) (hfs : fb < w.heap.size) (hL : L ≤ w.heap.size) (hPb : ∀ k, P k → k < w.heap.size) (hn : ls.length ≤ 1000)
    (hK : ∀ g c' w', RowE w' L P (.slice (some ⟨g, 0, none⟩) (ls.length + 1) c') (ls ++ [d]) → (∀ k, k < w.heap.size → v.ownBlock ≠ some k → w'.heap[k]? = w.heap[k]?) → (v.ownBlock = some g ∨ w.heap.size ≤ g) → Within L w.heap.size w w' → K (a.put o.dst (.slice (some ⟨g, 0, none⟩) (ls.length + 1) c')) w') :
    if Region.wanted o (yielded ops a.tmps) = true then Oper.wp Tryz.prog o a w K Q else E := by
  obtain ⟨i0, hi0, hz0, hz1, hz2⟩ := info_parts infoL
  obtain ⟨vs, h1, h2, h3, h4⟩ := hB
  have hone : pv.oneCell' = true := hpv.sl.one
  refine step_append_lies w hgd s x 75 ho L 30 i0 _ 1 24 Tryz.underlying75 hi0 hz0 hz1 hz2 rfl (by decide) v ls.length _ hs h1 ⟨nb, 0, none⟩ 1 1 [pv] hx rfl (World.news_of_block (cs := #[pv]) hnb) ?_ (by decide) (by unfold maxLen; omega) (by omega) (by omega) w.heap.size rfl ?_
  · intro u hu
    simp at hu
    subst hu
    exact hone
  · intro g cap w' hrow hgrow hg hgl
    have hW : Within L w.heap.size w w' := grown_within hgrow (fun g hg => ⟨(h3 g hg).1, (h3 g hg).2.1⟩)
    have hold : ∀ k, k < w.heap.size → v.ownBlock ≠ some k → w'.heap[k]? = w.heap[k]? := fun k hk hne => hgrow.block k hk (fun e => hne e.symm)
    have hPo : ∀ f, P f → f < w.heap.size → w'.heap[f]? = w.heap[f]? := fun f hf hlt => hold f hlt (fun e => (h3 f e).2.2 hf)
    refine hK g cap w' ⟨vs ++ [pv], ?_, by simp [h2], ?_, ?_⟩ hold (hg.imp id (fun e => by omega)) hW
    · rw [List.length_append, List.length_singleton]; exact hrow
    · intro g' hg'
      have : g = g' := by injection hg'
      subst this
      rcases hg with h | h
      · exact ⟨(h3 g h).1, hgl, (h3 g h).2.2⟩
      · exact ⟨by omega, hgl, fun hp => by have := hPb g hp; omega⟩
    · intro i y pv' hy hp'
      have hsz := hgrow.size
      by_cases hi' : i < ls.length
      · rw [List.getElem?_append_left hi'] at hy
        rw [List.getElem?_append_left (by omega)] at hp'
        obtain ⟨f, f1, f2, f3⟩ := h4 i y pv' hy hp'
        exact ⟨f, f1, by omega, f3.same fun k k1 k2 => by
          obtain rfl : k = f := by omega
          exact hPo k f1 f2⟩
      · have hil : i < (ls ++ [d]).length := (List.getElem?_eq_some_iff.1 hy).1
        simp at hil
        obtain rfl : i = ls.length := by omega
        rw [List.getElem?_append_right (Nat.le_refl _)] at hy
        rw [List.getElem?_append_right (by omega)] at hp'
        simp [h2] at hy hp'
        subst hy hp'
        exact ⟨fb, hfb, by omega, hpv.same fun k k1 k2 => by
          obtain rfl : k = fb := by omega
          exact hPo k hfb hfs⟩
def NetsQ (w : World) (N L m : Nat) (P : Nat → Prop) (lst : Nat → List (List Int)) : Prop := ∃ (cs : Array Value) (vs : Nat → Value), (∀ k, P k → L ≤ k ∧ k < w.heap.size) ∧ Blk w N cs 75 ∧ cs.size = m ∧ (∀ j, j < m → cs[j]? = some (vs j) ∧ RowE w L P (vs j) (lst j)) ∧
  (∀ i j, i < m → j < m → i ≠ j → ∀ g, (vs i).ownBlock = some g → (vs j).ownBlock ≠ some g)
def NetsB (w : World) (N L m : Nat) (lst : Nat → List (List Int)) : Prop := ∃ P, NetsQ w N L m P lst
theorem NetsQ.by {w w' : World} {N L m : Nat} {P : Nat → Prop} {lst : Nat → List (List Int)} (hb : Below w.heap.size w w') (h : NetsQ w N L m P lst) : NetsQ w' N L m P lst := by
  obtain ⟨cs, vs, hP, h1, h2, h3, h4⟩ := h
  exact ⟨cs, vs, fun k hk => ⟨(hP k hk).1, Nat.lt_of_lt_of_le (hP k hk).2 hb.size⟩, Blk.by hb h1, h2, fun j hj => ⟨(h3 j hj).1, (h3 j hj).2.off hb.size (fun k hk _ => hb.block k hk)⟩, h4⟩
theorem NetsB.by {w w' : World} {N L m : Nat} {lst : Nat → List (List Int)} (hb : Below w.heap.size w w') (h : NetsB w N L m lst) : NetsB w' N L m lst := by
  obtain ⟨P, h⟩ := h
  exact ⟨P, h.by hb⟩
theorem NetsQ.mark {w w' : World} {N L m D : Nat} {P : Nat → Prop} {lst : Nat → List (List Int)} (hb : Below w.heap.size w w') (h : NetsQ w N L m P lst) (hD : w.heap.size ≤ D) (hD' : D < w'.heap.size) (hL : L ≤ w.heap.size) : NetsQ w' N L m (fun k => P k ∨ k = D) lst := by
  obtain ⟨cs, vs, hP, h1, h2, h3, h4⟩ := h
  have hs := hb.size
  refine ⟨cs, vs, fun k hk => ?_, Blk.by hb h1, h2, fun j hj => ⟨(h3 j hj).1, ?_⟩, h4⟩
  · rcases hk with hk | rfl
    · exact ⟨(hP k hk).1, by have := (hP k hk).2; omega⟩
    · omega
  · refine RowE.off ((h3 j hj).2.more (fun k hk => .inl hk) (fun k hk hor => ?_)) hs (fun k hk _ => hb.block k hk)
    rcases hor with h | h
    · exact h
    · omega
theorem NetsQ.grow {w w' : World} {N L m j g cap : Nat} {P : Nat → Prop} {lst lst' : Nat → List (List Int)} {cs : Array Value} {vs : Nat → Value} (hP : ∀ k, P k → L ≤ k ∧ k < w.heap.size) (h1 : Blk w N cs 75) (h2 : cs.size = m) (h3 : ∀ j, j < m → cs[j]? = some (vs j) ∧ RowE w L P (vs j) (lst j))
    (h4 : ∀ i j, i < m → j < m → i ≠ j → ∀ g, (vs i).ownBlock = some g → (vs j).ownBlock ≠ some g) (hj : j < m) (hN : N < L)
    (hg : RowE w' L P (.slice (some ⟨g, 0, none⟩) (lst' j).length cap) (lst' j)) (hk : ∀ k, k < w.heap.size → (vs j).ownBlock ≠ some k → w'.heap[k]? = w.heap[k]?) (ho : (vs j).ownBlock = some g ∨ w.heap.size ≤ g) (hs : w.heap.size ≤ w'.heap.size)
    (hl : ∀ i, i ≠ j → lst' i = lst i) : NetsQ (w'.setCell ⟨N, j, none⟩ (.slice (some ⟨g, 0, none⟩) (lst' j).length cap)) N L m P lst' := by
  have hown : ∀ i, i < m → ∀ g, (vs i).ownBlock = some g → L ≤ g ∧ g < w.heap.size ∧ ¬ P g := fun i hi g e => by
    obtain ⟨_, _, _, c, _⟩ := (h3 i hi).2
    exact c g e
  have hNb : (vs j).ownBlock ≠ some N := fun e => by have := hown j hj N e; omega
  have hB' : Blk w' N cs 75 := (hk N h1.lt hNb).trans h1
  have hW : Within N (N + 1) w' (w'.setCell ⟨N, j, none⟩ (.slice (some ⟨g, 0, none⟩) (lst' j).length cap)) := Within.off _
  have hS : w'.heap.size ≤ (w'.setCell ⟨N, j, none⟩ (.slice (some ⟨g, 0, none⟩) (lst' j).length cap)).heap.size := hW.size
  have hPj : ∀ k, P k → (vs j).ownBlock ≠ some k := fun k hp e => (hown j hj k e).2.2 hp
  refine ⟨cs.setIfInBounds j (.slice (some ⟨g, 0, none⟩) (lst' j).length cap), fun i => if i = j then .slice (some ⟨g, 0, none⟩) (lst' j).length cap else vs i, fun k hk => ⟨(hP k hk).1, by have := (hP k hk).2; omega⟩, hB'.set j _, by simp [h2], fun i hi => ?_, fun a b ha hb hab g' hg' => ?_⟩
  · by_cases e : i = j
    · subst e
      simp only [if_true]
      refine ⟨by rw [Array.getElem?_setIfInBounds, if_pos rfl, if_pos (by omega)], ?_⟩
      refine hg.off hS fun k hk' hor => ?_
      refine hW.block k hk' ?_
      rcases hor with hp | he
      · have := hP k hp; omega
      · obtain ⟨_, _, _, c, _⟩ := hg
        have := c k he; omega
    · simp only [if_neg e]
      refine ⟨by rw [Array.getElem?_setIfInBounds, if_neg (fun h => e h.symm)]; exact (h3 i hi).1, ?_⟩
      rw [hl i e]
      refine (h3 i hi).2.off (by omega) fun k hk' hor => ?_
      have hLk : L ≤ k := by
        rcases hor with hp | he
        · exact (hP k hp).1
        · exact (hown i hi k he).1
      refine (hW.block k (by omega) (by omega)).trans (hk k hk' ?_)
      rcases hor with hp | he
      · exact hPj k hp
      · exact h4 i j hi hj e k he
  · by_cases e1 : a = j
    · subst e1
      have e2 : b ≠ a := fun h => hab h.symm
      simp only [if_true, if_neg e2] at hg' ⊢
      have hgg : g = g' := by injection hg'
      subst hgg
      intro e3
      rcases ho with h | h
      · exact h4 a b ha hb hab g h e3
      · have := hown b hb g e3; omega
    · simp only [if_neg e1] at hg'
      by_cases e2 : b = j
      · subst e2
        simp only [if_true]
        intro e3
        have hgg : g = g' := by injection e3
        subst hgg
        rcases ho with h | h
        · exact h4 a b ha hb hab g hg' h
        · have := hown a ha g hg'; omega
      · simp only [if_neg e2]
        exact h4 a b ha hb hab g' hg'
theorem make_lists3 (n : Nat) (hn : n ≤ 1000000) (w : World) : ∃ cs : Array Value, cs.size = n ∧ (∀ i, i < n → cs[i]? = some (Value.slice none 0 0)) ∧ (Instr.makeSlice 138 (.int .i64 n) (.int .i64 n)).run Tryz.prog w = .ok (.slice (some ⟨w.heap.size, 0, none⟩) n n) (w.alloc (.cells cs 75)) := by
  obtain ⟨i0, hi, hz0, hz1, hz2⟩ := info_parts (show (Tryz.prog.info? 75).map (fun i => (i.zero, i.size, i.bytes)) = some (some (.slice none 0 0), 1, 24) by kernel_rfl)
  have h := run_make (P := Tryz.prog) w 138 75 i0 _ Tryz.underlying138 hi hz0 .i64 .i64 (n : Int) (n : Int) (by omega) (by omega) (by rw [hz2]; omega) (by omega)
  simp only [Int.toNat_natCast, hz1, Nat.mul_one] at h
  refine ⟨_, size_madeCells _ _, fun i hi => ?_, h⟩
  simp [madeCells, hi, Value.cells, Nat.mod_one]
/- append(row, rows...): a row of slices behind another. -/
theorem step_appendB {ops : Array Oper} {o : Oper} {a : Act} {w : World} {K : Act → World → Prop} {Q : Exit → Act → World → Prop} {E : Prop} (hgd : o.guard = none) (s x : Operand)
    (ho : o.op = .call { callee := .builtin .append, args := #[s, x], argTypes := #[75, 75] })
    (L L2 : Nat) (P : Nat → Prop) (v v2 : Value) (ls l2 : List (List Int)) (hs : a.eval s = v) (hB : RowE w L P v ls) (hx : a.eval x = v2) (hB2 : RowE w L2 P v2 l2) (h0 : 0 < l2.length) (hL : L ≤ w.heap.size) (hPb : ∀ k, P k → k < w.heap.size) (hn : ls.length + l2.length ≤ 1000)
    (hK : ∀ g c' w', RowE w' L P (.slice (some ⟨g, 0, none⟩) (ls.length + l2.length) c') (ls ++ l2) → (∀ k, k < w.heap.size → v.ownBlock ≠ some k → w'.heap[k]? = w.heap[k]?) → (v.ownBlock = some g ∨ w.heap.size ≤ g) → Within L w.heap.size w w' → K (a.put o.dst (.slice (some ⟨g, 0, none⟩) (ls.length + l2.length) c')) w') :
    if Region.wanted o (yielded ops a.tmps) = true then Oper.wp Tryz.prog o a w K Q else E := by
  obtain ⟨i0, hi0, hz0, hz1, hz2⟩ := info_parts infoL
  obtain ⟨vs, h1, h2, h3, h4⟩ := hB
  obtain ⟨v2s, ⟨_, r1⟩, r2, r3, r4⟩ := hB2
  rcases r1 with ⟨_, r5⟩ | ⟨b, cap2, cur, rfl, r5, r6, r7, r8, r9, r10⟩
  · omega
  simp only [Nat.mul_one] at r10
  refine step_append_lies w hgd s x 75 ho L 30 i0 _ 1 24 Tryz.underlying75 hi0 hz0 hz1 hz2 rfl (by decide) v ls.length _ hs h1 ⟨b, 0, none⟩ l2.length cap2 v2s hx (by rw [r2, Nat.mul_one]) ?_ ?_ h0 (by unfold maxLen; omega) (by omega) (by omega) w.heap.size rfl ?_
  · intro j u hu
    refine World.news_of_block r6 j u ?_
    rw [← r10, List.getElem?_take] at hu
    split at hu
    · exact hu
    · cases hu
  · intro u hu
    obtain ⟨i, hi, e⟩ := List.mem_iff_getElem.1 hu
    obtain ⟨f, _, _, f3⟩ := r4 i (l2[i]'(by omega)) u (List.getElem?_eq_getElem _) (by rw [List.getElem?_eq_getElem hi, e])
    exact f3.sl.one
  · intro g cap w' hrow hgrow hg hgl
    have hW : Within L w.heap.size w w' := grown_within hgrow (fun g hg => ⟨(h3 g hg).1, (h3 g hg).2.1⟩)
    have hold : ∀ k, k < w.heap.size → v.ownBlock ≠ some k → w'.heap[k]? = w.heap[k]? := fun k hk hne => hgrow.block k hk (fun e => hne e.symm)
    have hPo : ∀ f, P f → f < w.heap.size → w'.heap[f]? = w.heap[f]? := fun f hf hlt => hold f hlt (fun e => (h3 f e).2.2 hf)
    have hsz := hgrow.size
    refine hK g cap w' ⟨vs ++ v2s, ?_, by simp [h2, r2], ?_, ?_⟩ hold (hg.imp id (fun e => by omega)) hW
    · rw [List.length_append]; exact hrow
    · intro g' hg'
      have : g = g' := by injection hg'
      subst this
      rcases hg with h | h
      · exact ⟨(h3 g h).1, hgl, (h3 g h).2.2⟩
      · exact ⟨by omega, hgl, fun hp => by have := hPb g hp; omega⟩
    · intro i y pv' hy hp'
      have hof : ∃ f, P f ∧ f < w.heap.size ∧ OwnR w f (f + 1) pv' y := by
        by_cases hi' : i < ls.length
        · rw [List.getElem?_append_left hi'] at hy
          rw [List.getElem?_append_left (by omega)] at hp'
          exact h4 i y pv' hy hp'
        · rw [List.getElem?_append_right (by omega)] at hy
          rw [List.getElem?_append_right (by omega), h2] at hp'
          exact r4 _ y pv' hy hp'
      obtain ⟨f, f1, f2, f3⟩ := hof
      refine ⟨f, f1, by omega, f3.same fun k k1 k2 => ?_⟩
      obtain rfl : k = f := by omega
      exact hPo k f1 f2
theorem RowE.ll {w : World} {L : Nat} {P : Nat → Prop} {v : Value} {ls : List (List Int)} (h : RowE w L P v ls) : LlSl w v ls := by
  obtain ⟨vs, ⟨_, r1⟩, r2, r3, r4⟩ := h
  rcases r1 with ⟨r1, r5⟩ | ⟨b, cap2, cur, rfl, r5, r6, r7, r8, r9, r10⟩
  · exact .inl ⟨_, _, r1, List.eq_nil_of_length_eq_zero r5⟩
  · simp only [Nat.mul_one] at r10
    refine .inr ⟨b, 0, cap2, rfl, r7, r8, fun i xs hi => ?_⟩
    have hil : i < ls.length := (List.getElem?_eq_some_iff.1 hi).1
    obtain ⟨sv, hv⟩ : ∃ sv, vs[i]? = some sv := ⟨vs[i]'(by omega), List.getElem?_eq_getElem _⟩
    obtain ⟨f, _, _, f3⟩ := r4 i xs _ hi hv
    refine ⟨_, ?_, f3.sl⟩
    rw [Nat.zero_add, Blk.cell (w := w) (cs := cur) (T := 30) r6]
    have := hv
    rw [← r10, List.getElem?_take, if_pos hil] at this
    simpa using this
/- append(literal, rows...): a row of slices, empty or not, behind a literal of one slice. -/
theorem run_append_zero (b n c : Nat) (a2 : Option Addr) (c2 : Nat) (ty : TypeId) (hn : n ≤ c) (w : World) :
    (Builtin.append_ #[75, 75] ty #[.slice (some ⟨b, 0, none⟩) n c, .slice a2 0 c2]).run Tryz.prog w = .ok (.slice (some ⟨b, 0, none⟩) n c) w := by
  obtain ⟨i0, hi0, hz0, hz1, hz2⟩ := info_parts infoL
  have hs : Src Tryz.prog i0.size 75 (.slice a2 0 c2) 0 [] w := by
    cases a2 with
    | none => exact Src.ofNil w Tryz.underlying75 c2
    | some ad => exact Src.ofSlice w Tryz.underlying75 ad 0 c2 [] (by simp) (fun j u h => by simp at h) (fun u h => by simp at h)
  have h := run_append_room_src w 75 75 ty _ i0 Tryz.underlying75 hi0 b 0 n c (.slice a2 0 c2) 0 [] hs (by omega) (fun j hj => by simp at hj) (fun j hj => by simp at hj)
  simpa [World.setCells] using h
theorem list_append0 {ops : Array Oper} {rest : List Oper} {o : Oper} {a : Act} {w : World} {Q : Exit → Act → World → Prop} (hgd : o.guard = none) (s x : Operand)
    (ho : o.op = .call { callee := .builtin .append, args := #[s, x], argTypes := #[75, 75] })
    (b n c : Nat) (a2 : Option Addr) (c2 : Nat) (hs : a.eval s = .slice (some ⟨b, 0, none⟩) n c) (hx : a.eval x = .slice a2 0 c2) (hn : n ≤ c)
    (hK : wpList Tryz.prog ops Q rest (a.put o.dst (.slice (some ⟨b, 0, none⟩) n c)) w) : wpList Tryz.prog ops Q (o :: rest) a w :=
  Go.Lib.wpList_append_run w hgd s x _ _ ho _ _ hs hx _ _ (run_append_zero b n c a2 c2 o.type hn w) hK
theorem RowE.also {w : World} {L : Nat} {P : Nat → Prop} {v : Value} {ls : List (List Int)} (h : RowE w L P v ls) (fb : Nat) (hne : v.ownBlock ≠ some fb) : RowE w L (fun k => P k ∨ k = fb) v ls := by
  obtain ⟨vs, a1, a2, a3, a4⟩ := h
  refine ⟨vs, a1, a2, fun g hg => ⟨(a3 g hg).1, (a3 g hg).2.1, fun hp => ?_⟩, fun i x s hx hp => ?_⟩
  · rcases hp with hp | rfl
    · exact (a3 g hg).2.2 hp
    · exact hne hg
  · obtain ⟨f, f1, f2, f3⟩ := a4 i x s hx hp
    exact ⟨f, .inl f1, f2, f3⟩
theorem list_append1 {ops : Array Oper} {rest : List Oper} {o : Oper} {a : Act} {w : World} {Q : Exit → Act → World → Prop} (hgd : o.guard = none) (s x : Operand)
    (ho : o.op = .call { callee := .builtin .append, args := #[s, x], argTypes := #[75, 75] })
    (B fb gb : Nat) (d : List Int) (pv : Value) (hs : a.eval s = .slice (some ⟨gb, 0, none⟩) 1 1) (hgb : Blk w gb #[pv] 30) (hpv : OwnR w fb (fb + 1) pv d) (hfs : fb < w.heap.size) (h1 : B ≤ fb) (h2 : B ≤ gb) (h3 : fb ≠ gb)
    (L2 : Nat) (P : Nat → Prop) (v2 : Value) (l2 : List (List Int)) (hx : a.eval x = v2) (hB2 : RowE w L2 P v2 l2) (hv2 : ∀ g, v2.ownBlock = some g → g < B) (hPb : ∀ k, P k → k < B) (hn : l2.length ≤ 900)
    (hK : ∀ a' c' w', LlSl w' (.slice a' (1 + l2.length) c') ([d] ++ l2) → Below B w w' → wpList Tryz.prog ops Q rest (a.put o.dst (.slice a' (1 + l2.length) c')) w') : wpList Tryz.prog ops Q (o :: rest) a w := by
  have hgl := hgb.lt
  have hlit : RowE w B (fun k => P k ∨ k = fb) (.slice (some ⟨gb, 0, none⟩) 1 1) [d] := by
    refine ⟨[pv], ⟨rfl, .inr ⟨gb, 1, #[pv], rfl, h2, hgb, Nat.le_refl _, by unfold maxLen; omega, rfl, rfl⟩⟩, rfl, fun g hg => ?_, fun i y sv hy hp => ?_⟩
    · have : gb = g := by injection hg
      subst this
      refine ⟨h2, hgl, fun hp => ?_⟩
      rcases hp with hp | rfl
      · have := hPb _ hp; omega
      · exact h3 rfl
    · have hi : i < 1 := (List.getElem?_eq_some_iff.1 hy).1
      obtain rfl : i = 0 := by omega
      simp at hy hp
      subst hy hp
      exact ⟨fb, .inr rfl, hfs, hpv⟩
  rcases Nat.eq_zero_or_pos l2.length with h0 | h0
  · obtain ⟨a2, c2, rfl⟩ := hB2.sized
    have hl2 : l2 = [] := List.eq_nil_of_length_eq_zero h0
    subst hl2
    exact list_append0 hgd s x ho gb 1 1 a2 c2 hs hx (Nat.le_refl _) (hK _ _ _ hlit.ll (Below.refl _ w))
  · have hB3 := hB2.also fb (fun e => by have := hv2 _ e; omega)
    exact wpList_plain hgd fun K hk => by
      have h := step_appendB (ops := ops) (K := K) (Q := Q) (E := False) hgd s x ho B L2 _ _ v2 [d] l2 hs hlit hx hB3 h0 (by omega) (fun k hp => by
        rcases hp with hp | rfl
        · have := hPb k hp; omega
        · exact hfs) (by simp; omega) (fun g c' w' hR _ _ hW => hk _ _ (hK (some ⟨g, 0, none⟩) c' w' hR.ll ⟨hW.os, hW.tape, hW.output, hW.size, fun k hk => hW.block k (by omega) (.inl hk)⟩))
      rwa [if_pos (by simp [Region.wanted, hgd])] at h
theorem BldL.same {w w' : World} {lo hi : Nat} {v : Value} {ls : List (List Int)} (h : BldL w lo hi v ls) (hs : w.heap.size ≤ w'.heap.size) (hb : ∀ k, lo ≤ k → k < hi → w'.heap[k]? = w.heap[k]?) : BldL w' lo hi v ls := by
  obtain ⟨hz, vs, f, h1, h2, h3, h4⟩ := h
  refine ⟨Nat.le_trans hz hs, vs, f, row_same h1 (fun g hg => hb g (h3 g hg).1 (h3 g hg).2), h2, h3, fun i x s hx hp => ?_⟩
  obtain ⟨a, b, c⟩ := h4 i x s hx hp
  exact ⟨a.same (fun g g1 g2 => by
    obtain rfl : g = f i := by omega
    exact hb _ b.1 b.2), b, c⟩
theorem BldL.wide {w : World} {lo hi lo' hi' : Nat} {v : Value} {ls : List (List Int)} (h : BldL w lo hi v ls) (h1 : lo' ≤ lo) (h2 : hi ≤ hi') (h3 : hi' ≤ w.heap.size) : BldL w lo' hi' v ls := by
  obtain ⟨hz, vs, f, ⟨r0, r1⟩, a2, a3, a4⟩ := h
  refine ⟨h3, vs, f, ⟨r0, ?_⟩, a2, fun g hg => by have := a3 g hg; omega, fun i x s hx hp => ?_⟩
  · rcases r1 with r1 | ⟨g, cap, cur, e1, e2, e3⟩
    · exact .inl r1
    · exact .inr ⟨g, cap, cur, e1, by omega, e3⟩
  · obtain ⟨a, b, c⟩ := a4 i x s hx hp
    exact ⟨a, by omega, c⟩
open Go.RowKit Go.Lib
set_option maxRecDepth 100000 in
set_option maxHeartbeats 2000000 in
theorem growI_nil (n : Nat) (hn : 0 < n) (hb : n ≤ 1000000) (w : World) :
    Calls Tryz.prog 132 #[.slice none 0 0, .int .i64 (n : Int)] w fun e w' => ∃ a c, e = .returned (.slice a 0 c) ∧ BldI w' w.heap.size w'.heap.size (.slice a 0 c) [] ∧ Below w.heap.size w w' := by
  obtain ⟨i0, hi0, hz0, hz1, hz2⟩ := info_parts infoI
  have hold : (Builtin.firstCells i0.size 0 (.slice none 0 0)).run Tryz.prog w.drew = .ok #[] w.drew := run_firstCells_none w.drew i0.size 0 0 0
  obtain ⟨G, hG⟩ : ∃ G, G = grownCap w n 0 2 := ⟨_, rfl⟩
  have hG1 : n ≤ G := by rw [hG]; exact grownCap_ge w _ _ _
  have hG2 : G ≤ maxLen := by rw [hG]; exact grownCap_le_maxLen w _ _ _ (by unfold maxLen; omega)
  have hrz : ∀ ty, ∃ cs : Array Value, cs.size = G ∧ (Builtin.append_ #[30, 3] ty #[.slice none 0 0, .int .i64 (n : Int)]).run Tryz.prog w = .ok (.slice (some ⟨w.heap.size, 0, none⟩) n G) (w.drew.alloc (.cells cs 2)) := fun ty => by
    have h := Lib.run_append_grow_zeros w 30 3 ty 2 i0 _ .i64 .i64 Tryz.underlying30 Tryz.underlying3 hi0 hz0 none 0 0 [] hold n (by omega) (by omega) (by omega) (by omega)
      (by rw [hz2]; omega) (by rw [Nat.zero_add]; exact growslice_fits hn (by rw [hz2]; omega))
    rw [Nat.zero_add, ← hG] at h
    refine ⟨_, ?_, h⟩
    simp [size_zeroCells, hz1, Value.cells]
    omega
  have h1 : ¬ ((n : Int) < 0) := by omega
  have h3 : wrap64 (n : Int) = (n : Int) := by unfold wrap64; omega
  have h4 : ((n : Int)) > 0 := by omega
  have hG63 : G ≤ 9223372036854775807 := by unfold maxLen at hG2; omega
  obtain ⟨cs, hcs, hrun⟩ := hrz 30
  have HCS := Lib.hid hcs
  have HGM := Lib.hid hG2
  clear hold hG hrz hcs hG2 hi0 hz0 hz1 hz2
  go_enter Tryz.func132, Tryz.ntmps132
  go_wp2_with (at_builtin; refine Lib.wpList_append_run _ rfl _ _ _ _ rfl _ _ rfl rfl _ _ hrun ?_)
  all_goals
    go_ret
    refine ⟨_, _, rfl, ⟨Nat.le_refl _, ⟨rfl, .inr ⟨w.heap.size, G, cs, rfl, Nat.le_refl _, Blk.new _ rfl, Nat.zero_le _, HGM.out, by rw [HCS.out, Nat.mul_one], by simp [icells]⟩⟩, fun g hg => ?_⟩, (Below.refl _ w).drew.alloc (Nat.le_refl _) _⟩
    have : w.heap.size = g := by injection hg
    simp
    omega
theorem list_appendI {ops : Array Oper} {rest : List Oper} {o : Oper} {a : Act} {w : World} {Q : Exit → Act → World → Prop} (hgd : o.guard = none) (s x : Operand)
    (ho : o.op = .call { callee := .builtin .append, args := #[s, x], argTypes := #[30, 30] })
    (lo hi : Nat) (v : Value) (zs ys : List Int) (hs : a.eval s = v) (hB : BldI w lo hi v zs) (b off m c : Nat) (hx : a.eval x = .slice (some ⟨b, off, none⟩) m c) (hys : ys.length = m) (hm : 0 < m)
    (hcs : ∀ (j : Nat) y, ys[j]? = some y → w.cell? ⟨b, off + j, none⟩ = some (.int .i64 y)) (hlo : lo ≤ hi) (hn : zs.length + m ≤ 8000000)
    (hK : ∀ a' c' w', BldI w' lo w'.heap.size (.slice a' (zs.length + m) c') (zs ++ ys) → Within lo hi w w' → wpList Tryz.prog ops Q rest (a.put o.dst (.slice a' (zs.length + m) c')) w') : wpList Tryz.prog ops Q (o :: rest) a w :=
  wpList_plain hgd fun K hk => by
    obtain ⟨i0, hi0, hz0, hz1, hz2⟩ := info_parts infoI
    obtain ⟨hsz, h1, h3⟩ := hB
    have h := step_append_lies (E := False) (Q := Q) (K := K) (ops := ops) w hgd s x 30 ho lo 2 i0 _ 1 8 Tryz.underlying30 hi0 hz0 hz1 hz2 rfl (by decide) v zs.length _ hs h1 ⟨b, off, none⟩ m c (icells ys) hx (by simp [icells, hys]) (by
      intro j u hu
      have hadd : (⟨b, off, none⟩ : Addr).add j = ⟨b, off + j, none⟩ := by unfold Addr.add; split <;> simp_all
      simp only [icells, List.getElem?_map, Option.map_eq_some_iff] at hu
      obtain ⟨y, hy, rfl⟩ := hu
      rw [hadd]
      exact hcs j y hy) (by
      intro u hu
      simp only [icells, List.mem_map] at hu
      obtain ⟨_, _, rfl⟩ := hu
      rfl) hm (by unfold maxLen; omega) (by omega) (by omega) w.heap.size rfl (by
      intro g cap w' hrow hgrow hg hgl
      have hW : Within lo hi w w' := grown_within hgrow h3
      refine hk _ _ (hK (some ⟨g, 0, none⟩) cap w' ⟨Nat.le_refl _, ?_, ?_⟩ hW)
      · rw [List.length_append, hys, icells_push]; exact hrow
      · intro g' hg'
        have : g = g' := by injection hg'
        subst this
        rcases hg with h | h
        · have := h3 g h; omega
        · omega)
    rwa [if_pos (by simp [Region.wanted, hgd])] at h
set_option maxRecDepth 100000 in
set_option maxHeartbeats 2000000 in
theorem concatI_any (ls : List (List Int)) (sv : Value) (w : World) (h : LlSl w sv ls) (h0 : 0 < ls.flatten.length) (hb : ls.flatten.length ≤ 1000000) (hn : ls.length ≤ 1000000) (hne : ∀ xs ∈ ls, 0 < xs.length) :
    Calls Tryz.prog 110 #[sv] w fun e w' => ∃ v', e = .returned v' ∧ OwnR w' w.heap.size w'.heap.size v' ls.flatten ∧ Below w.heap.size w w' := by
  rcases h with ⟨_, _, _, e2⟩ | ⟨b, off, cap, rfl, l1, l2, hc⟩
  · rw [e2] at h0; simp at h0
  have hsum : ∀ (k : Nat) (xs : List Int), ls[k]? = some xs → (ls.take (k + 1)).flatten = (ls.take k).flatten ++ xs := fun k xs hk => by
    rw [take_snoc_of ls k xs hk, List.flatten_append]; simp
  have hle : ∀ k : Nat, (ls.take k).flatten.length ≤ 1000000 := fun k => by
    have h1 : ls.flatten.length = (ls.take k).flatten.length + (ls.drop k).flatten.length := by
      rw [← List.length_append, ← List.flatten_append, List.take_append_drop]
    omega
  have hlast : (ls.take ls.length).flatten = ls.flatten := by rw [List.take_of_length_le (Nat.le_refl _)]
  have hfirst : (ls.take 0).flatten = [] := rfl
  obtain ⟨T, hT⟩ : ∃ T : Nat → List Int, ∀ k, (ls.take k).flatten = T k := ⟨_, fun _ => rfl⟩
  simp only [hT] at hsum hle hlast hfirst
  obtain ⟨Y, hY⟩ : ∃ Y, ls.flatten = Y := ⟨_, rfl⟩
  rw [hY] at hlast h0 hb ⊢
  obtain ⟨n, hn'⟩ : ∃ n, ls.length = n := ⟨_, rfl⟩
  have hcs : ∀ i, i < n → ∃ xs s, ls[i]? = some xs ∧ w.cell? ⟨b, off + i, none⟩ = some s ∧ IntSl w s xs ∧ 0 < xs.length := fun i hi => by
    obtain ⟨s, h1, h2⟩ := hc i _ (List.getElem?_eq_getElem (by omega))
    exact ⟨_, s, List.getElem?_eq_getElem (by omega), h1, h2, hne _ (List.getElem_mem _)⟩
  rw [hn'] at hlast l1 hn ⊢
  have HSUM := Lib.hid hsum
  have HLE := Lib.hid hle
  have HLAST := Lib.hid hlast
  have HF := Lib.hid hfirst
  have HCS := Lib.hid hcs
  have H0 := Lib.hid h0
  have HG := Lib.hid (fun w => growI_nil Y.length h0 hb w)
  clear hsum hle hlast hfirst hcs hT hY hn' hc h0 hne
  have hlenN := l2
  unfold maxLen at hlenN
  go_enter Tryz.func110, Tryz.ntmps110
  go_wp2
  go_loopw [3, 5, 11] (fun t3 t5 t11 wr => ∃ k : Nat, k ≤ n ∧ t11 = .int .i64 k ∧ t3 = .int .i64 ((T k).length : Int) ∧ w = wr) (fun _ _ i _ => n - (intOf i).toNat)
  case atStart => exact ⟨0, Nat.zero_le _, rfl, by rw [HF.out]; rfl, rfl⟩
  case round =>
    obtain ⟨k, hk, rfl, rfl, rfl⟩ := hrel
    by_cases hlt : k < n
    · obtain ⟨xs, s, e1, e2, e3, hxp⟩ := HCS.out k hlt
      obtain ⟨ap, cp, rfl⟩ := e3.len
      have HE := Lib.hid (HSUM.out k xs e1)
      have hl1 := HLE.out k
      have hl2 := HLE.out (k + 1)
      rw [HE.out, List.length_append] at hl2
      have k1 : (0 : Int) ≤ (k : Int) := by omega
      have k2 : (k : Int) < (n : Int) := by omega
      have hz : ¬ (((T k).length : Int) + (xs.length : Int) < 0) := by omega
      have hw : wrap64 (((T k).length : Int) + (xs.length : Int)) = ((T k).length : Int) + (xs.length : Int) := by unfold wrap64; omega
      clear e1 e3
      go_wp2
      refine ⟨⟨k + 1, by omega, by go_num, ?_, by first | trivial | rfl⟩, by simp [intOf]; omega⟩
      rw [HE.out, List.length_append]
      simp
    · obtain rfl : n = k := by omega
      rw [HLAST.out]
      go_wp2_with fail
      refine (HG.out _).mono ?_
      rintro e w1 ⟨ga, gc, rfl, hB, hb1⟩
      have HB := Lib.hid hB
      clear hB
      go_wp2
      go_loopw [6, 8, 27] (fun t6 t8 t27 wr => ∃ (k hi : Nat), k ≤ n ∧ t27 = .int .i64 k ∧ Hid (BldI wr w.heap.size hi t6 (T k)) ∧ w.heap.size ≤ hi ∧ Below w.heap.size w wr) (fun _ _ i _ => n - (intOf i).toNat)
      case atStart => exact ⟨0, w1.heap.size, Nat.zero_le _, rfl, Lib.hid (by rw [HF.out]; exact HB.out), hb1.size, hb1⟩
      case round =>
        clear HB hb1
        obtain ⟨k, hi, hk, rfl, HB, hhi, hbw⟩ := hrel
        obtain ⟨ao, co, rfl⟩ := HB.out.sized
        by_cases hlt : k < n
        · obtain ⟨xs, s, e1, e2, e3, hxp⟩ := HCS.out k hlt
          have e2' := cell_by' hbw e2
          have e3' := e3.by hbw
          have HE := Lib.hid (HSUM.out k xs e1)
          have hl1 := HLE.out k
          have hl2 := HLE.out (k + 1)
          rw [HE.out, List.length_append] at hl2
          have k1 : (0 : Int) ≤ (k : Int) := by omega
          have k2 : (k : Int) < (n : Int) := by omega
          rcases e3' with ⟨_, _, _, e4⟩ | ⟨xb, xo, xc, rfl, x1, x2, x3⟩
          · rw [e4] at hxp; simp at hxp
          have HX3 := Lib.hid x3
          clear e1 e3 e2 x3
          go_wp2_with (refine list_appendI (by rfl) _ _ (by rfl) w.heap.size hi (.slice ao (T k).length co) (T k) xs (by rfl) HB.out xb xo xs.length xc (by rfl) rfl hxp HX3.out hhi (by omega) ?_; intro a4 c4 w4 hB4 hw4; have HB4 := Lib.hid hB4; clear hB4)
          have hs4 := hw4.size
          have hbs := HB.out.1
          refine ⟨⟨k + 1, w4.heap.size, by omega, by go_num, Lib.hid ?_, by omega, hw4.below hbw (by omega)⟩, by simp [intOf]; omega⟩
          rw [HE.out]
          exact HB4.out
        · obtain rfl : n = k := by omega
          rw [HLAST.out] at HB ⊢
          go_wp2
          go_ret
          exact ⟨_, rfl, OwnR.wide' HB.out.own (Nat.le_refl _) HB.out.1, hbw⟩
theorem ddpA_snocI {α : Type} [DecidableEq α] (p : α) (l : List α) (x : α) : ddpA p (l ++ [x]) = if x = l.getLast?.getD p then ddpA p l else ddpA p l ++ [x] := by
  induction l generalizing p with
  | nil => by_cases h : x = p <;> simp [ddpA, h]
  | cons b l ih =>
    have e : (b :: l).getLast?.getD p = l.getLast?.getD b := by rw [List.getLast?_cons]; rfl
    rw [e]
    simp only [List.cons_append, ddpA, ih b]
    by_cases h1 : b = p <;> by_cases h2 : x = l.getLast?.getD b <;> simp [h1, h2]
theorem ddp_snocI {α : Type} [DecidableEq α] {l : List α} {x y : α} (h : l.getLast? = some y) : ddp (l ++ [x]) = if x = y then ddp l else ddp l ++ [x] := by
  cases l with
  | nil => simp at h
  | cons a l =>
    rw [List.getLast?_cons] at h
    have e : l.getLast?.getD a = y := by simpa using h
    simp only [List.cons_append, ddp, ddpA_snocI, e]
    split <;> simp
def keepI (zs : List Int) : Nat → List Int
  | 0 => []
  | k + 1 => match zs[k]? with
    | none => keepI zs k
    | some z => if zs[k - 1]? = some z ∧ 0 < k then keepI zs k else keepI zs k ++ [z]
theorem keepI_same {zs : List Int} {k : Nat} {p q : Int} (hp : zs[k + 1]? = some p) (hq : zs[k]? = some q) (h : p = q) : keepI zs (k + 2) = keepI zs (k + 1) := by
  show (match zs[k + 1]? with | none => _ | some z => _) = _
  rw [hp]
  simp [hq, h]
theorem keepI_new {zs : List Int} {k : Nat} {p q : Int} (hp : zs[k + 1]? = some p) (hq : zs[k]? = some q) (h : p ≠ q) : keepI zs (k + 2) = keepI zs (k + 1) ++ [p] := by
  show (match zs[k + 1]? with | none => _ | some z => _) = _
  rw [hp]
  simp [hq, Ne.symm h]
theorem keepI_one {zs : List Int} : keepI zs 1 = zs.take 1 := by
  cases zs <;> simp [keepI]
theorem keepI_ddp (zs : List Int) : ∀ k, k ≤ zs.length → keepI zs k = ddp (zs.take k)
  | 0, _ => rfl
  | 1, _ => by rw [keepI_one]; cases zs <;> simp [ddp, ddpA]
  | k + 2, hk => by
    have ih := keepI_ddp zs (k + 1) (by omega)
    obtain ⟨p, hp⟩ : ∃ p, zs[k + 1]? = some p := ⟨zs[k + 1], List.getElem?_eq_getElem (by omega)⟩
    obtain ⟨q, hq⟩ : ∃ q, zs[k]? = some q := ⟨zs[k], List.getElem?_eq_getElem (by omega)⟩
    have hl : (zs.take (k + 1)).getLast? = some q := by
      rw [List.getLast?_eq_getElem?, List.length_take, show min (k + 1) zs.length - 1 = k by omega, List.getElem?_take_of_lt (by omega), hq]
    rw [take_snoc_of zs (k + 1) p hp, ddp_snocI hl]
    by_cases h : p = q
    · rw [keepI_same hp hq h, if_pos h, ih]
    · rw [keepI_new hp hq h, if_neg h, ih]
def CompIPost (blk cap : Nat) (zs : List Int) (w : World) (e : Ending) (w' : World) : Prop :=
  ∃ (ds : Array Value), e = .returned (.slice (some ⟨blk, 0, none⟩) (ddp zs).length cap) ∧ Blk w' blk ds 2 ∧ (∀ (i : Nat) z, (ddp zs)[i]? = some z → ds[i]? = some (.int .i64 z)) ∧ Within blk (blk + 1) w w' ∧ (ddp zs).length ≤ zs.length
theorem length_ddpA {α : Type} [DecidableEq α] (p : α) (l : List α) : (ddpA p l).length ≤ l.length := by
  induction l generalizing p with
  | nil => simp [ddpA]
  | cons a l ih =>
    unfold ddpA
    split
    · have := ih a; simp; omega
    · have := ih a; simp; omega
theorem length_ddp {α : Type} [DecidableEq α] (l : List α) : (ddp l).length ≤ l.length := by
  cases l with
  | nil => simp [ddp]
  | cons a l => have := length_ddpA a l; simp [ddp]; omega
set_option maxRecDepth 100000 in
set_option maxHeartbeats 2000000 in
theorem compactI_any (blk cap : Nat) (zs : List Int) (w : World) (cs : Array Value) (hB : Blk w blk cs 2)
    (hc : ∀ (i : Nat) z, zs[i]? = some z → cs[i]? = some (.int .i64 z)) (hn : zs.length ≤ 1000000) (hcap : zs.length ≤ cap) (hmx : cap ≤ maxLen) :
    Calls Tryz.prog 111 #[.slice (some ⟨blk, 0, none⟩) zs.length cap] w (CompIPost blk cap zs w) := by
  obtain ⟨PP, hPP⟩ : ∃ P, CompIPost blk cap zs w = P := ⟨_, rfl⟩
  rw [hPP]
  have HPP := Lib.hid hPP
  clear hPP
  unfold maxLen at hmx
  by_cases h2 : zs.length < 2
  · have hs : ddp zs = zs := by
      match zs, h2 with
      | [], _ => rfl
      | [p], _ => rfl
    have hl : (zs.length : Int) < 2 := by omega
    have HS := Lib.hid hs
    have HC := Lib.hid hc
    clear hs hc
    go_enter Tryz.func111, Tryz.ntmps111
    go_wp2
    rw [← HPP.out]
    exact ⟨cs, by rw [HS.out]; rfl, hB, by rw [HS.out]; exact HC.out, Within.refl _ _ _, length_ddp zs⟩
  · have hl : ¬ (zs.length : Int) < 2 := by omega
    have HC := Lib.hid hc
    have HD := Lib.hid (keepI_ddp zs zs.length (Nat.le_refl _))
    have HK1 := Lib.hid (show keepI zs (0 + 1) = zs.take (0 + 1) from keepI_one)
    have HKS := Lib.hid (fun k p q => @keepI_same zs k p q)
    have HKN := Lib.hid (fun k p q => @keepI_new zs k p q)
    have HTS := Lib.hid (fun k p h => take_snoc_of zs k p h)
    have hBl := hB.lt
    have hBc := hB.cell
    clear hc
    go_enter Tryz.func111, Tryz.ntmps111
    go_wp2
    go_loopw [3] (fun i wr => ∃ m n : Nat, m + 1 ≤ zs.length ∧ i = .int .i64 ((m : Int) + 1) ∧ Hid (keepI zs (m + 1) = zs.take (m + 1)) ∧ wr = w.drewN n) (fun i _ => zs.length - (intOf i).toNat)
    case atStart => exact ⟨0, 0, by omega, rfl, HK1, rfl⟩
    case round =>
      obtain ⟨m, n, hm, rfl, HKT, rfl⟩ := hrel
      by_cases hlt : m + 1 < zs.length
      · obtain ⟨p, hp⟩ : ∃ p, zs[m + 1]? = some p := ⟨zs[m + 1], List.getElem?_eq_getElem hlt⟩
        obtain ⟨q, hq⟩ : ∃ q, zs[m]? = some q := ⟨zs[m], List.getElem?_eq_getElem (by omega)⟩
        have c1 : w.cell? ⟨blk, m + 1, none⟩ = some (.int .i64 p) := (hBc _).trans (HC.out _ p hp)
        have c2 : w.cell? ⟨blk, m, none⟩ = some (.int .i64 q) := (hBc _).trans (HC.out _ q hq)
        have HP := Lib.hid hp
        have HQ := Lib.hid hq
        have i1 : (0 : Int) ≤ (m : Int) := by omega
        have i2 : (m : Int) < (zs.length : Int) := by omega
        have i3 : (m : Int) + 1 < (zs.length : Int) := by omega
        have i4 : (0 : Int) ≤ (m : Int) + 1 := by omega
        have wr1 : IntKind.i64.wrap (m : Int) = m := by simp [IntKind.wrap, IntKind.bits, IntKind.signed]; omega
        clear hp hq hBc
        by_cases hxy : p = q
        · have HXY := Lib.hid hxy
          have e1 : (p == q) = true := by simpa using hxy
          have HK0 := Lib.hid (show keepI zs (m + 2) = zs.take (m + 1) by rw [HKS.out m _ _ HP.out HQ.out hxy, HKT.out])
          have i5 : (m : Int) + 1 ≤ (zs.length : Int) := by omega
          have i6 : (m : Int) + 1 ≤ (cap : Int) := by omega
          clear hxy
          go_wp2_with fail
          go_quiet (fail)
          go_wp2
          obtain ⟨wo, hwo⟩ : ∃ wo : World, wo = w.drewN (n + nq) := ⟨_, rfl⟩
          have hWo : Within blk (blk + 1) w wo := by rw [hwo]; exact (Within.refl _ _ _).drewN _
          have hBo : Blk wo blk cs 2 := by rw [hwo]; exact hB
          (try rw [← hwo])
          have HK0L := Lib.hid (show (keepI zs (m + 2)).length = m + 1 by rw [HK0.out, List.length_take]; omega)
          have HD0 := Lib.hid (show ∀ (i : Nat) p, (keepI zs (m + 2))[i]? = some p → cs[i]? = some (.int .i64 p) from fun i p h => by
            rw [HK0.out] at h
            have hi : i < m + 1 := by have := (List.getElem?_eq_some_iff.1 h).1; simp at this; omega
            rw [List.getElem?_take_of_lt hi] at h
            exact HC.out i p h)
          clear hwo c1 c2 HP HQ HXY HK0 HKT hB hBl e1
          go_loopw [3, 5] (fun i j wr => ∃ k q : Nat, k ≤ m + 1 + q ∧ m + 2 + q ≤ zs.length ∧ i = .int .i64 (k : Int) ∧ j = .int .i64 ((q : Int) + 1) ∧ Hid ((keepI zs (m + 2 + q)).length = k) ∧
            (∃ ds : Array Value, Blk wr blk ds 2 ∧ ds.size = cs.size ∧ Hid (∀ (i : Nat) p, (keepI zs (m + 2 + q))[i]? = some p → ds[i]? = some (.int .i64 p)) ∧ Hid (∀ (i : Nat) p, m + 1 + q ≤ i → zs[i]? = some p → ds[i]? = some (.int .i64 p))) ∧ Within blk (blk + 1) w wr) (fun _ j _ => zs.length - (intOf j).toNat)
          case atStart => exact ⟨m + 1, 0, by omega, by omega, by go_num, by go_num, HK0L, ⟨cs, hBo, rfl, HD0, Lib.hid (fun i p _ h => HC.out i p h)⟩, hWo⟩
          case round =>
            clear HK0L hBo hWo HD0
            obtain ⟨k, q, hkq, hql, rfl, rfl, HKL, ⟨ds, hB, HZ, HDA, HDB⟩, hW⟩ := hrel
            have hBl := hB.lt
            by_cases hlt2 : m + 2 + q < zs.length
            · obtain ⟨p, hp⟩ : ∃ p, zs[m + 2 + q]? = some p := ⟨zs[m + 2 + q], List.getElem?_eq_getElem hlt2⟩
              obtain ⟨p', hq⟩ : ∃ p, zs[m + 1 + q]? = some p := ⟨zs[m + 1 + q], List.getElem?_eq_getElem (by omega)⟩
              have c1 : wr.cell? ⟨blk, m + 1 + (q + 1), none⟩ = some (.int .i64 p) := (hB.cell _).trans (HDB.out _ p (by omega) (by rw [← hp]; congr 1; omega))
              have c2 : wr.cell? ⟨blk, m + 1 + q, none⟩ = some (.int .i64 p') := (hB.cell _).trans (HDB.out _ p' (by omega) hq)
              have HP := Lib.hid (show zs[(m + 1 + q) + 1]? = some p by rw [← hp]; congr 1; omega)
              have HQ := Lib.hid hq
              have j1 : (0 : Int) ≤ (q : Int) + 1 := by omega
              have j0 : (0 : Int) ≤ (q : Int) := by omega
              have j2 : (q : Int) + 1 < ((zs.length - (m + 1) : Nat) : Int) := by omega
              have j3 : (q : Int) < ((zs.length - (m + 1) : Nat) : Int) := by omega
              have wr2 : IntKind.i64.wrap (q : Int) = q := by simp [IntKind.wrap, IntKind.bits, IntKind.signed]; omega
              have k1 : (0 : Int) ≤ (k : Int) := by omega
              have k2 : (k : Int) < (zs.length : Int) := by omega
              have HZH := Lib.hid HZ
              clear hp hq HZ
              by_cases hxy : p = p'
              · have HSM := Lib.hid (show keepI zs (m + 2 + (q + 1)) = keepI zs (m + 2 + q) by
                  have := HKS.out (m + 1 + q) _ _ HP.out HQ.out hxy
                  rw [show m + 1 + q + 2 = m + 2 + (q + 1) by omega, show m + 1 + q + 1 = m + 2 + q by omega] at this
                  exact this)
                have e2 : (p == p') = true := by simpa using hxy
                have e3 : (p != p') = false := by simpa using hxy
                clear hxy
                go_wp2_with fail
                go_quiet (fail)
                go_wp2
                exact ⟨⟨k, q + 1, by omega, by omega, rfl, by go_num, Lib.hid (by rw [HSM.out]; exact HKL.out), ⟨ds, hB, HZH.out, Lib.hid (by rw [HSM.out]; exact HDA.out), Lib.hid (fun i p hi h => HDB.out i p (by omega) h)⟩, hW.drewN _⟩, by simp [intOf]; omega⟩
              · have HSM := Lib.hid (show keepI zs (m + 2 + (q + 1)) = keepI zs (m + 2 + q) ++ [p] by
                  have := HKN.out (m + 1 + q) _ _ HP.out HQ.out hxy
                  rw [show m + 1 + q + 2 = m + 2 + (q + 1) by omega, show m + 1 + q + 1 = m + 2 + q by omega] at this
                  exact this)
                have e2 : (p == p') = false := by simpa using hxy
                have e3 : (p != p') = true := by simpa using hxy
                have hkc : k < cs.size := by
                  have hk' : k < zs.length := by omega
                  exact (Array.getElem?_eq_some_iff.1 (HC.out k _ (List.getElem?_eq_getElem hk'))).1
                obtain ⟨u0, t0⟩ : ∃ u, wr.cell? ⟨blk, k, none⟩ = some u := ⟨ds[k]'(by have := HZH.out; omega), by rw [hB.cell]; exact Array.getElem?_eq_getElem _⟩
                have fB := hB.free
                have HKC := Lib.hid hkc
                clear hkc hxy
                go_wp2_with fail
                go_quiet (fail)
                go_wp2
                refine ⟨⟨k + 1, q + 1, by omega, by omega, by go_num, by go_num, Lib.hid (by rw [HSM.out, List.length_append, HKL.out]; rfl), ⟨ds.setIfInBounds k (.int .i64 p), (hB.drewN _).set k _, by simp [HZH.out], Lib.hid (fun i p h => ?_), Lib.hid (fun i p hi h => ?_)⟩, (hW.drewN _).set blk _ _ (Nat.le_refl _) (by omega)⟩, by simp [intOf]; omega⟩
                · rw [HSM.out] at h
                  rw [Array.getElem?_setIfInBounds]
                  by_cases e : k = i
                  · subst e
                    rw [List.getElem?_append_right (by rw [HKL.out]; exact Nat.le_refl _), HKL.out] at h
                    simp at h
                    subst h
                    rw [if_pos rfl, if_pos (by have := HKC.out; have := HZH.out; omega)]
                  · rw [if_neg e]
                    have hi : i < k := by
                      have := (List.getElem?_eq_some_iff.1 h).1
                      rw [List.length_append, HKL.out] at this
                      simp at this; omega
                    rw [List.getElem?_append_left (by rw [HKL.out]; exact hi)] at h
                    exact HDA.out i p h
                · rw [Array.getElem?_setIfInBounds, if_neg (by omega)]
                  exact HDB.out i p (by omega) h
            · have HQL := Lib.hid (show m + 2 + q = zs.length by omega)
              have j2 : ¬ (q : Int) + 1 < ((zs.length - (m + 1) : Nat) : Int) := by have := HQL.out; omega
              have k1 : (0 : Int) ≤ (k : Int) := by omega
              have k2 : (k : Int) ≤ (zs.length : Int) := by omega
              have k3 : (k : Int) ≤ (cap : Int) := by omega
              have hBc := hB.cell
              have hBf := hB.free
              have hcl := fun ty => Lib.run_clear_slice (P := Tryz.prog) wr 30 2 ty (.int .i64 0) Tryz.underlying30 (fun w => by kernel_rfl) (by kernel_rfl) rfl blk k (zs.length - k) (cap - k) (by omega) (fun j hj => by
                rw [hBc]
                have hk' : k + j < zs.length := by omega
                have := (Array.getElem?_eq_some_iff.1 (HC.out (k + j) _ (List.getElem?_eq_getElem hk'))).1
                rw [Array.getElem?_eq_getElem (by omega)]; rfl) (fun j hj => hBf _)
              obtain ⟨ds', hB', he', hW'⟩ := Blk.setCells blk (List.replicate (zs.length - k) (Value.int .i64 0)) k wr ds hB
              generalize wr.setCells blk k (List.replicate (zs.length - k) (Value.int .i64 0)) = w9 at *
              clear hBc hBf
              go_wp2
              rw [← HPP.out]
              have hdd := HD.out
              rw [List.take_length] at hdd
              refine ⟨ds', by rw [← hdd, ← HQL.out, HKL.out], hB', fun i p h => ?_, hW.on hW', length_ddp zs⟩
              rw [← hdd, ← HQL.out] at h
              have hi : i < k := by have := (List.getElem?_eq_some_iff.1 h).1; rwa [HKL.out] at this
              rw [he' i hi]
              exact HDA.out i p h
        · have HXY := Lib.hid hxy
          have e1 : (p == q) = false := by simpa using hxy
          clear hxy
          go_wp2_with fail
          go_quiet (fail)
          go_wp2
          refine ⟨⟨m + 1, _, by omega, by go_num, Lib.hid ?_, by first | rfl | exact World.drewN_drewN _ _ _⟩, by simp [intOf]; omega⟩
          rw [HKN.out m _ _ HP.out HQ.out HXY.out, HKT.out, HTS.out _ _ HP.out]
      · have HL := Lib.hid (show zs.length = m + 1 by omega)
        go_wp2
        rw [← HPP.out]
        have h1 := HD.out
        rw [List.take_length] at h1
        refine ⟨cs, ?_, hB, ?_, (Within.refl _ _ _).drewN n, length_ddp zs⟩
        · rw [← h1, HL.out, HKT.out, ← HL.out, List.take_length]
          rfl
        · rw [← h1, HL.out, HKT.out, ← HL.out, List.take_length]
          exact HC.out
def noDv : Dv := ⟨0, [], 0, 0⟩
def ordD (zs : List Int) (ds : List Dv) : List Dv := (invS zs).map fun k => ds.getD k.toNat noDv
theorem length_ordD (zs : List Int) (ds : List Dv) : (ordD zs ds).length = zs.length := by simp [ordD, length_invS]
theorem ordD_get {zs : List Int} {ds : List Dv} (hp : permB zs ds.length = true) (i : Nat) (z : Int) (d : Dv) (hz : zs[i]? = some z) (hd : ds[i]? = some d) : (ordD zs ds)[z.toNat]? = some d := by
  have := invS_get hp i z hz
  simp [ordD, this, List.getD_eq_getElem?_getD, hd]
theorem ordD_inv {zs : List Int} {ds : List Dv} (hp : permB zs ds.length = true) (k : Nat) (d : Dv) (h : (ordD zs ds)[k]? = some d) : ∃ i : Nat, (invS zs)[k]? = some (i : Int) ∧ zs[i]? = some (k : Int) ∧ ds[i]? = some d := by
  have hk := (List.getElem?_eq_some_iff.1 h).1
  rw [length_ordD] at hk
  have hl := (permB_iff.1 hp).1
  obtain ⟨i, e1, e2⟩ := invS_inv hp k (by omega)
  have hi := (List.getElem?_eq_some_iff.1 e2).1
  refine ⟨i, e1, e2, ?_⟩
  have hd : ds[i]? = some (ds[i]'(by omega)) := List.getElem?_eq_getElem (by omega)
  have := ordD_get hp i k _ e2 hd
  rw [Int.toNat_natCast, h] at this
  rw [hd, ← Option.some.inj this]
theorem invS_inj {zs : List Int} {n : Int} (hp : permB zs n = true) (a b : Nat) (z : Int) (ha : (invS zs)[a]? = some z) (hb : (invS zs)[b]? = some z) : a = b := by
  rcases Nat.lt_trichotomy a b with h | h | h
  · have := permB_dup (n := n) h ha hb; rw [permB_invS hp] at this; cases this
  · exact h
  · have := permB_dup (n := n) h hb ha; rw [permB_invS hp] at this; cases this
/- ApplyMatching: what it answers; devices of the call's own, at fixed blocks. -/
def apC (x : Nl) (y : List Int × List Int) : Int := if nlB x = true then (if permB y.1 x.nets = true ∧ permB y.2 (x.ds.length : Int) = true then 0 else 2) else 1
def apR (x : Nl) (y : List Int × List Int) : Nl := if nlB x = true then (if permB y.1 x.nets = true ∧ permB y.2 (x.ds.length : Int) = true then ⟨x.nets, ordD y.2 (x.ds.map (renD y.1)), x.ps.map (renP y.1)⟩ else ⟨0, [], []⟩) else ⟨0, [], []⟩
theorem nl_netsX {x : Nl} (h : nlB x = true) : ∀ p ∈ x.ps, 0 ≤ p.net ∧ p.net < x.nets := by
  intro p hp
  obtain ⟨i, hi, e⟩ := List.mem_iff_getElem.1 hp
  have := (nlB_facts h).2.2.2.2 i hi
  have hg : x.ps[i]? = some p := by rw [List.getElem?_eq_getElem hi, e]
  simp only [ptOk, hg, Bool.and_eq_true] at this
  have h2 := inB_iff.1 this.2.1
  omega
def DsAt (w : World) (lo hi : Nat) (sv : Value) (ds : List Dv) (f : Nat → Nat) (pv : Nat → Value) : Prop := ∀ (i : Nat) (x : Dv), ds[i]? = some x →
  (∃ g cap cs, sv = .slice (some ⟨g, 0, none⟩) ds.length cap ∧ (lo ≤ g ∧ g < hi) ∧ Blk w g cs 54 ∧ Cs4 cs i (.int .i64 x.kind) (pv i) (.int .i64 x.wd) (.int .i64 x.len)) ∧ OwnR w (f i) (f i + 1) (pv i) x.pins ∧ lo ≤ f i ∧ f i < hi
theorem DsAt.by {w w' : World} {lo hi : Nat} {sv : Value} {ds : List Dv} {f : Nat → Nat} {pv : Nat → Value} (hb : Below w.heap.size w w') (h : DsAt w lo hi sv ds f pv) : DsAt w' lo hi sv ds f pv := by
  intro i x hx
  obtain ⟨⟨g, cap, cs, h1, h2, h3, h4⟩, h5, h6⟩ := h i x hx
  exact ⟨⟨g, cap, cs, h1, h2, Blk.by hb h3, h4⟩, OwnR.by hb h5, h6⟩
theorem DsAt.past {w w' : World} {lo hi lo' hi' : Nat} {sv : Value} {ds : List Dv} {f : Nat → Nat} {pv : Nat → Value} (hb : Within lo' hi' w w') (h : DsAt w lo hi sv ds f pv) (hd : hi ≤ lo' ∨ hi' ≤ lo) : DsAt w' lo hi sv ds f pv := by
  intro i x hx
  obtain ⟨⟨g, cap, cs, h1, h2, h3, h4⟩, h5, h6⟩ := h i x hx
  exact ⟨⟨g, cap, cs, h1, h2, hb.blk h3 (by omega), h4⟩, OwnR.past hb h5 (by omega), h6⟩
theorem OwnDs.at {w : World} {lo hi : Nat} {sv : Value} {ds : List Dv} (h : OwnDs w lo hi sv ds) : ∃ f pv, DsAt w lo hi sv ds f pv ∧ ∀ i j, i < ds.length → j < ds.length → i ≠ j → f i ≠ f j := by
  rcases h with ⟨a, c, h1, h2⟩ | ⟨g, cap, cs, f, h1, h2, h3, h4, h5, h6, h7⟩
  · refine ⟨fun _ => 0, fun _ => .int .i64 0, fun i x hx => ?_, fun i j hi => ?_⟩
    · rw [h2] at hx; simp at hx
    · rw [h2] at hi; simp at hi
  · refine ⟨f, fun i => cs.getD (i * 4 + 1) (.int .i64 0), fun i x hx => ?_, h7⟩
    obtain ⟨⟨pv, hC, hR⟩, hf⟩ := h6 i x hx
    have e : cs.getD (i * 4 + 1) (.int .i64 0) = pv := by rw [Array.getD_eq_getD_getElem?, hC.2.1]; rfl
    dsimp only
    rw [e]
    exact ⟨⟨g, cap, cs, h1, h2, h5, hC⟩, hR, hf.1, hf.2.1⟩
theorem OwnPs.pick {w : World} {lo hi : Nat} {sv : Value} {ps : List Pt} (h : OwnPs w lo hi sv ps) (r : Nat) : ∃ P, OwnPs w P (P + 1) sv ps ∧ (P = r ∨ lo ≤ P ∧ P < hi) := by
  rcases h with h | ⟨g, cap, cs, h1, h2, h3, h4, h5, h6⟩
  · exact ⟨r, .inl h, .inl rfl⟩
  · exact ⟨g, .inr ⟨g, cap, cs, h1, by omega, h3, h4, h5, h6⟩, .inr h2⟩
theorem OwnR.one {w : World} {lo hi : Nat} {sv : Value} {zs : List Int} (h : OwnR w lo hi sv zs) : sv.oneCell' = true := by
  rcases h with ⟨_, _, rfl, _⟩ | ⟨_, _, _, rfl, _⟩ <;> rfl
/- Contract of degrees. -/
/- Devices in series: plain. -/
def portB (ps : List Pt) (net : Int) : Bool := ps.any fun o => decide (o.net = net)
/- Devices in series: contracts of the reference's helpers. -/
end Go.Proofs.YtehmiekendkjmaaGreat
