/- The program's netLine, at a port's line and at a device's line that are taken. -/
import Derived.Test.YtglddnkpccgchaaDoorNetLn
import Derived.Test.YtglddnkpccgchaaDoorTakeL
namespace Go.Proofs.YtglddnkpccgchaaDoor
open Go.RowKit
set_option linter.unusedVariables false
set_option linter.unusedSimpArgs false

theorem cell_within {w w' : World} {lo hi g o : Nat} {v : Value} (hW : Within lo hi w w') (h : w.cell? ⟨g, o, none⟩ = some v) (hd : g < lo ∨ hi ≤ g) : w'.cell? ⟨g, o, none⟩ = some v := by
  have hg := lt_of_cell h
  dsimp only at hg
  have e := hW.block g hg hd
  unfold World.cell? at h ⊢
  dsimp only at h ⊢
  rw [e]
  exact h
theorem below_within {w w' : World} {lo hi B : Nat} (hW : Within lo hi w w') (hB : B ≤ lo) (hl : B ≤ w.heap.size) : Below B w w' := ⟨hW.os, hW.tape, hW.output, hW.size, fun k hk => hW.block k (by omega) (.inl (by omega))⟩
theorem below_less {w w' : World} {B C : Nat} (h : Below C w w') (hB : B ≤ C) : Below B w w' := ⟨h.os, h.tape, h.output, h.size, fun k hk => h.block k (by omega)⟩

set_option maxRecDepth 100000 in
set_option maxHeartbeats 2000000 in
theorem netl_p5 (x : Nl) (s s0 : ByteArray) (r : List ByteArray) (NB B lo : Nat) (w : World) (hW : wrdS 32 s = s0 :: r) (hs : s.size ≤ 1048576) (hx : BoxN w NB lo x) (hG : Glob B w) (hB : B ≤ NB) (nm a : ByteArray) (hk : s0.data.toList = wPortL) (hr : r = [nm, a]) (hn : nameB nm = true) (hb : x.ds = []) (m : Nat) (hnum : numL a.data.toList = some m) (hps : x.ps.length ≤ 8) :
    Calls Tryd.prog 37 #[.pointer (some ⟨NB, 0, none⟩), .string s, .bool false] w fun e w' => e = .returned (.bool (lineL false x (lsts (s0 :: r))).isSome) ∧ (∀ y, lineL false x (lsts (s0 :: r)) = some y → BoxN w' NB lo y) ∧ Below NB w w' := by
  have hmk : (⟨nm.data.toList.toArray⟩ : ByteArray) = nm := ba_ext rfl
  have HL : Hid (lineL false x (lsts (s0 :: r)) = some { x with ps := x.ps ++ [⟨nm, (m : Int)⟩] }) := Lib.hid (by
    subst hr
    unfold lsts lineL
    simp only [List.map_cons, List.map_nil, hk, Bool.false_eq_true, if_false, if_true, hmk]
    rw [if_pos ⟨hn, hb⟩, hnum])
  have hnb := hx.lt
  have HSP := Lib.hid (fun w hG => strings_Split_any s B w hs hG)
  have HW := Lib.hid hW
  have HX := Lib.hid hx
  have HG := Lib.hid hG
  have hsw := wrd_size 32 s
  rw [hW] at hsw
  have HWZ : Hid (∀ y ∈ s0 :: r, y.size ≤ 1048576) := Lib.hid (fun y hy => by have := hsw.1 y hy; omega)
  have hrl : r.length ≤ 1048576 := by have := hsw.2.1; simp at this; omega
  subst hr
  have HI := Lib.hid (fun w => implIsName_any nm w (by have := HWZ.out nm (by simp); omega))
  obtain ⟨a1, c1, a2, c2, kN0, -⟩ := HX.out.own
  have e0 := nets_word s0
  have ep := port_word s0
  rw [hk, decide_eq_false (by decide)] at e0
  rw [hk, decide_eq_true rfl] at ep
  rw [hn] at HI
  have e5 : decide ((0 : Int) < (x.ds.length : Int)) = false := decide_eq_false (by rw [hb]; simp)
  have e6 : decide (0 < x.ds.length) = false := decide_eq_false (by rw [hb]; simp)
  have e7 : x.ds.length = 0 := by rw [hb]; rfl
  have HNU := Lib.hid (fun v ss cnt w h hs hl hB hG => netNumbers_any v ss cnt B w h hs hl hB hG)
  obtain ⟨z, hz⟩ : ∃ z : Int, (m : Int) = z := ⟨_, rfl⟩
  have HZM := Lib.hid hz
  have HNN : Hid (numsL (lsts [a]) = some [z]) := Lib.hid (by unfold lsts; simp [numsL, hnum, hz])
  have HDS := Lib.hid hb
  clear hk hb hmk hn hnum hz
  clear hx hG hW hsw
  go_enter Tryd.func37, Tryd.ntmps37
  go_wp2_with fail
  refine (HSP.out w HG.out).mono ?_
  rintro e w1 ⟨rfl, hst, hb1⟩
  rw [HW.out] at hst ⊢
  rw [show (s0 :: [nm, a]).length = 3 from rfl] at hst ⊢
  have q0 : w1.cell? ⟨w.heap.size, 0, none⟩ = some (.string s0) := str_cell hst 0 s0 rfl
  have lg := lt_of_cell q0
  dsimp only at lg
  have hbN : Below NB w w1 := ⟨hb1.os, hb1.tape, hb1.output, hb1.size, fun k hk => hb1.block k (by omega)⟩
  have q1 : w1.cell? ⟨w.heap.size, 1, none⟩ = some (.string nm) := str_cell hst 1 nm rfl
  have hwt := hst.tail.2.2.tail.2.2
  have HWT : Hid (StrSl w1 (.slice (some ⟨w.heap.size, 2, none⟩) 1 1) [a]) := Lib.hid hwt
  have kN := Blk.by hb1 kN0
  have cN := kN.cell
  have lN := kN.lt
  clear hst kN0 hwt
  go_wp2_with (go_at_call 48; refine (HI.out _).mono ?_; rintro e w2 ⟨rfl, rfl⟩)
  refine (HNU.out _ [a] 1 w1 HWT.out (fun y hy => HWZ.out y (by simp at hy; subst hy; simp)) (by simp) (by omega) (HG.out.by hb1 (by omega))).mono ?_
  rintro e w2 ⟨v2, rfl, hzs, hb2⟩
  have hbM : Below NB w w2 := hbN.trans ⟨hb2.os, hb2.tape, hb2.output, hb2.size, fun k hk => hb2.block k (by omega)⟩
  rw [HNN.out]
  rw [show cntB (some [z]) 1 = true from rfl]
  have hB2 := hzs _ HNN.out
  rcases hB2.own with ⟨_, _, _, h0⟩ | ⟨G, c5, cs, rfl, hG1, hG2, hl1, hl2, hBk, hcell⟩
  · simp at h0
  have qz : w2.cell? ⟨G, 0, none⟩ = some (.int .i64 z) := (hBk.cell 0).trans (hcell 0 z rfl)
  have lz := lt_of_cell qz
  dsimp only at lz
  replace q1 := cell_by' hb2 q1
  obtain ⟨mid, dv, pv, L, kN1, hlo, hP1, hO1, hL1, hdn⟩ := HX.out
  have hmid : mid ≤ w.heap.size := hO1.1
  obtain rfl := hdn HDS.out
  obtain ⟨a3, c3, rfl⟩ := hP1.sized
  have hb12 := below_on hb2 hb1
  clear kN cN lN hO1 hL1 hdn e5 e6
  have kN := Blk.by hb12 kN1
  have hP := hP1.by hb12
  have hw1s := hb1.size
  have hw2s := hb2.size
  have hGm : mid ≤ G := by omega
  clear hb1 q0 lg HWT hbN hzs hb2 kN1 hP1 hB2 hBk hcell hG1 hl1 hb12
  go_upto_region 15 with fail
  obtain ⟨WB, hWB⟩ : ∃ q, w.heap.size = q := ⟨_, rfl⟩
  have hWBl : mid ≤ WB := by omega
  have hWB2 : w.heap.size ≤ WB := Nat.le_of_eq hWB
  rw [hWB] at q1
  rw [hWB]
  clear hWB
  have hS : (fun w' : World => Blk w' NB #[.int .i64 x.nets, .slice none 0 0, .slice a3 x.ps.length c3] 31 ∧ w'.cell? ⟨WB, 1, none⟩ = some (.string nm) ∧ w'.cell? ⟨G, 0, none⟩ = some (.int .i64 z)) { w2 with drawn := w2.drawn + 1 } := ⟨kN.drew, q1, qz⟩
  refine wp_region_any (by kernel_rfl) (wpAny_of_E (S := (fun w' : World => Blk w' NB #[.int .i64 x.nets, .slice none 0 0, .slice a3 x.ps.length c3] 31 ∧ w'.cell? ⟨WB, 1, none⟩ = some (.string nm) ∧ w'.cell? ⟨G, 0, none⟩ = some (.int .i64 z))) (l := 16) _ _ _ _ ?_)
  change wpAnyE _ _ _ _ _ _ _ _ _ w2.drew
  refine wpAnyE_takeL (i := 0) (v := ?_) rfl (by kernel_rfl) (fun _ _ _ h => h) (Or.inl ⟨by rfl, ?_⟩) hS ?_
  rotate_left
  · intro w hSw; (try dsimp only at hSw); have qA := hSw.1.cell; have lA := hSw.1.lt; have qB := hSw.2.1; have lB := lt_of_cell qB; have qC := hSw.2.2; have lC := lt_of_cell qC; (try dsimp only at lB lC); clear hSw; go_simp; (try with_reducible rfl)
  try simp only [Act.put, List.setIfInBounds_toArray, List.set_cons_zero, List.set_cons_succ]
  refine wpAnyE_takeL (i := 1) (v := ?_) rfl (by kernel_rfl) (fun _ _ _ h => h) (Or.inl ⟨by rfl, ?_⟩) hS ?_
  rotate_left
  · intro w hSw; (try dsimp only at hSw); have qA := hSw.1.cell; have lA := hSw.1.lt; have qB := hSw.2.1; have lB := lt_of_cell qB; have qC := hSw.2.2; have lC := lt_of_cell qC; (try dsimp only at lB lC); clear hSw; go_simp; (try with_reducible rfl)
  try simp only [Act.put, List.setIfInBounds_toArray, List.set_cons_zero, List.set_cons_succ]
  refine wpAnyE_takeL (i := 2) (v := ?_) rfl (by kernel_rfl) (fun _ _ _ h => h) (Or.inl ⟨by rfl, ?_⟩) hS ?_
  rotate_left
  · intro w hSw; (try dsimp only at hSw); have qA := hSw.1.cell; have lA := hSw.1.lt; have qB := hSw.2.1; have lB := lt_of_cell qB; have qC := hSw.2.2; have lC := lt_of_cell qC; (try dsimp only at lB lC); clear hSw; go_simp; (try with_reducible rfl)
  try simp only [Act.put, List.setIfInBounds_toArray, List.set_cons_zero, List.set_cons_succ]
  refine wpAnyE_takeL (i := 3) (v := ?_) rfl (by kernel_rfl) (fun _ _ _ h => h) (Or.inl ⟨by rfl, ?_⟩) hS ?_
  rotate_left
  · intro w hSw; (try dsimp only at hSw); have qA := hSw.1.cell; have lA := hSw.1.lt; have qB := hSw.2.1; have lB := lt_of_cell qB; have qC := hSw.2.2; have lC := lt_of_cell qC; (try dsimp only at lB lC); clear hSw; go_simp; (try with_reducible rfl)
  try simp only [Act.put, List.setIfInBounds_toArray, List.set_cons_zero, List.set_cons_succ]
  refine wpAnyE_takeL (i := 4) (v := ?_) rfl (by kernel_rfl) (fun _ _ _ h => h) (Or.inl ⟨by rfl, ?_⟩) hS ?_
  rotate_left
  · intro w hSw; (try dsimp only at hSw); have qA := hSw.1.cell; have lA := hSw.1.lt; have qB := hSw.2.1; have lB := lt_of_cell qB; have qC := hSw.2.2; have lC := lt_of_cell qC; (try dsimp only at lB lC); clear hSw; go_simp; (try with_reducible rfl)
  try simp only [Act.put, List.setIfInBounds_toArray, List.set_cons_zero, List.set_cons_succ]
  refine wpAnyE_takeL (i := 5) (v := ?_) rfl (by kernel_rfl) (fun _ _ _ h => h) (Or.inl ⟨by rfl, ?_⟩) hS ?_
  rotate_left
  · intro w hSw; (try dsimp only at hSw); have qA := hSw.1.cell; have lA := hSw.1.lt; have qB := hSw.2.1; have lB := lt_of_cell qB; have qC := hSw.2.2; have lC := lt_of_cell qC; (try dsimp only at lB lC); clear hSw; go_simp; (try with_reducible rfl)
  try simp only [Act.put, List.setIfInBounds_toArray, List.set_cons_zero, List.set_cons_succ]
  refine wpAnyE_takeL (i := 6) (v := ?_) rfl (by kernel_rfl) (fun _ _ _ h => h) (Or.inl ⟨by rfl, ?_⟩) hS ?_
  rotate_left
  · intro w hSw; (try dsimp only at hSw); have qA := hSw.1.cell; have lA := hSw.1.lt; have qB := hSw.2.1; have lB := lt_of_cell qB; have qC := hSw.2.2; have lC := lt_of_cell qC; (try dsimp only at lB lC); clear hSw; go_simp; (try with_reducible rfl)
  try simp only [Act.put, List.setIfInBounds_toArray, List.set_cons_zero, List.set_cons_succ]
  refine wpAnyE_takeL (i := 7) (v := ?_) rfl (by kernel_rfl) (fun _ _ _ h => h) (Or.inl ⟨by rfl, ?_⟩) hS ?_
  rotate_left
  · intro w hSw; (try dsimp only at hSw); have qA := hSw.1.cell; have lA := hSw.1.lt; have qB := hSw.2.1; have lB := lt_of_cell qB; have qC := hSw.2.2; have lC := lt_of_cell qC; (try dsimp only at lB lC); clear hSw; go_simp; (try with_reducible rfl)
  try simp only [Act.put, List.setIfInBounds_toArray, List.set_cons_zero, List.set_cons_succ]
  refine wpAnyE_takeL (i := 8) (v := ?_) rfl (by kernel_rfl) (fun _ _ _ h => h) (Or.inl ⟨by rfl, ?_⟩) hS ?_
  rotate_left
  · intro w hSw; (try dsimp only at hSw); have qA := hSw.1.cell; have lA := hSw.1.lt; have qB := hSw.2.1; have lB := lt_of_cell qB; have qC := hSw.2.2; have lC := lt_of_cell qC; (try dsimp only at lB lC); clear hSw; go_simp; (try with_reducible rfl)
  try simp only [Act.put, List.setIfInBounds_toArray, List.set_cons_zero, List.set_cons_succ]
  refine wpAnyE_takeL (i := 9) (v := ?_) rfl (by kernel_rfl) (fun _ _ _ h => h) (Or.inl ⟨by rfl, ?_⟩) hS ?_
  rotate_left
  · intro w hSw; (try dsimp only at hSw); have qA := hSw.1.cell; have lA := hSw.1.lt; have qB := hSw.2.1; have lB := lt_of_cell qB; have qC := hSw.2.2; have lC := lt_of_cell qC; (try dsimp only at lB lC); clear hSw; go_simp; (try with_reducible rfl)
  try simp only [Act.put, List.setIfInBounds_toArray, List.set_cons_zero, List.set_cons_succ]
  refine wpAnyE_takeL (i := 10) (v := ?_) rfl (by kernel_rfl) (fun _ _ _ h => h) (Or.inl ⟨by rfl, ?_⟩) hS ?_
  rotate_left
  · intro w hSw; (try dsimp only at hSw); have qA := hSw.1.cell; have lA := hSw.1.lt; have qB := hSw.2.1; have lB := lt_of_cell qB; have qC := hSw.2.2; have lC := lt_of_cell qC; (try dsimp only at lB lC); clear hSw; go_simp; (try with_reducible rfl)
  try simp only [Act.put, List.setIfInBounds_toArray, List.set_cons_zero, List.set_cons_succ]
  refine wpAnyE_takeL (i := 11) (v := ?_) rfl (by kernel_rfl) (fun _ _ _ h => h) (Or.inl ⟨by rfl, ?_⟩) hS ?_
  rotate_left
  · intro w hSw; (try dsimp only at hSw); have qA := hSw.1.cell; have lA := hSw.1.lt; have qB := hSw.2.1; have lB := lt_of_cell qB; have qC := hSw.2.2; have lC := lt_of_cell qC; (try dsimp only at lB lC); clear hSw; go_simp; (try with_reducible rfl)
  try simp only [Act.put, List.setIfInBounds_toArray, List.set_cons_zero, List.set_cons_succ]
  obtain ⟨y0, hy0⟩ : ∃ q, q = w2.drew := ⟨_, rfl⟩
  have hbc : Below w2.heap.size w2 y0 := by rw [hy0]; exact (Below.refl _ w2).drew
  have kNc := Blk.by hbc kN
  have hPc := hP.by hbc
  have p1c := cell_by' hbc q1
  have p2c := cell_by' hbc qz
  rw [← hy0]
  clear hy0
  refine wpAnyE_oneL (k := 12) (by kernel_rfl) rfl (fun K hK => ?_)
  go_simp
  have hal : Below y0.heap.size y0 (y0.alloc (.cells #[.string nm, .int .i64 z] 49)) := (Below.refl _ y0).alloc (Nat.le_refl _) _
  have hsz0 := hbc.size
  replace kNc := Blk.by hal kNc
  replace hPc := hPc.by hal
  replace p1c := cell_by' hal p1c
  replace p2c := cell_by' hal p2c
  replace hbc := below_on hal hbc
  have kP : Blk (y0.alloc (.cells #[.string nm, .int .i64 z] 49)) y0.heap.size #[.string nm, .int .i64 z] 49 := Blk.new _ rfl
  refine hK.out _ _ (fun _ => ⟨kNc, p1c, p2c⟩) ?_
  try simp only [Act.put, List.setIfInBounds_toArray, List.set_cons_zero, List.set_cons_succ]
  clear hal hK
  generalize y0.alloc (.cells #[.string nm, .int .i64 z] 49) = y1 at *
  generalize y0.heap.size = PB at *
  refine wpAnyE_oneL (k := 13) (by kernel_rfl) rfl (fun K hK => ?_)
  refine step_pushP (by rfl) _ _ (by rfl) lo mid (.slice a3 x.ps.length c3) x.ps (by rfl) hPc PB ⟨nm, z⟩ (by rfl) kP (by omega) (by omega) ?_
  intro ab cb y2 hP3 hWi
  have hNy := kNc.lt
  have kN3 : Blk y2 NB #[.int .i64 x.nets, .slice none 0 0, .slice a3 x.ps.length c3] 31 := hWi.blk kNc (by omega)
  have hb3 : Below NB w2 y2 := (below_less hbc (by omega)).trans (below_within hWi (by omega) (by omega))
  have hsy := hWi.size
  refine hK.out _ _ (fun _ => ⟨kN3, cell_within hWi p1c (.inr hWBl), cell_within hWi p2c (.inr (by omega))⟩) ?_
  try simp only [Act.put, List.setIfInBounds_toArray, List.set_cons_zero, List.set_cons_succ]
  clear hK
  have hS2 : (fun w' : World => Blk w' NB #[.int .i64 x.nets, .slice none 0 0, .slice a3 x.ps.length c3] 31 ∧ w'.cell? ⟨WB, 1, none⟩ = some (.string nm) ∧ w'.cell? ⟨G, 0, none⟩ = some (.int .i64 z)) y2 := ⟨kN3, cell_within hWi p1c (.inr hWBl), cell_within hWi p2c (.inr (by omega))⟩
  refine wpAnyE_takeL (i := 14) (v := ?_) rfl (by kernel_rfl) (fun _ _ _ h => h) (Or.inl ⟨by rfl, ?_⟩) hS2 ?_
  rotate_left
  · intro w hSw; (try dsimp only at hSw); have qA := hSw.1.cell; have lA := hSw.1.lt; have qB := hSw.2.1; have lB := lt_of_cell qB; have qC := hSw.2.2; have lC := lt_of_cell qC; (try dsimp only at lB lC); clear hSw; go_simp; (try with_reducible rfl)
  try simp only [Act.put, List.setIfInBounds_toArray, List.set_cons_zero, List.set_cons_succ]
  refine wpAnyE_takeL (i := 15) (v := ?_) rfl (by kernel_rfl) (fun _ _ _ h => h) (Or.inl ⟨by rfl, ?_⟩) hS2 ?_
  rotate_left
  · intro w hSw; (try dsimp only at hSw); have qA := hSw.1.cell; have lA := hSw.1.lt; have qB := hSw.2.1; have lB := lt_of_cell qB; have qC := hSw.2.2; have lC := lt_of_cell qC; (try dsimp only at lB lC); clear hSw; go_simp; (try with_reducible rfl)
  try simp only [Act.put, List.setIfInBounds_toArray, List.set_cons_zero, List.set_cons_succ]
  have hPl := kP.lt
  refine wpAnyE_oneL (k := 16) (by kernel_rfl) rfl (fun K hK => ?_)
  have cN := kN3.cell
  have fN := kN3.free
  have lN := kN3.lt
  go_simp
  refine hK.out _ _ (fun h => absurd rfl h) ?_
  refine wpAnyE_done (by kernel_rfl) ?_ _
  clear hS hS2 hK p1c p2c q1 qz kN kNc hPc hP kP
  have hbf : Below NB w (y2.setCell ⟨NB, 2, none⟩ (.slice ab (x.ps.length + 1) cb)) := (hbM.trans hb3).setCell (Nat.le_refl _) _
  have HBX := Lib.hid (BoxN.port (mid := mid) kN3 hlo.1 (by omega) hP3 HDS.out)
  clear cN fN lN kN3 hb3 hP3
  generalize y2.setCell ⟨NB, 2, none⟩ (.slice ab (x.ps.length + 1) cb) = y3 at *
  go_wp2
  refine bodyPost_ret (v := .bool true) (by simp [results, Tryd.results37, go_sem, *]) rfl ⟨by rw [HL.out]; rfl, fun y hy => ?_, hbf⟩
  rw [HL.out] at hy
  obtain rfl := (Option.some.inj hy).symm
  rw [HZM.out]
  exact HBX.out

set_option maxRecDepth 100000 in
set_option maxHeartbeats 2000000 in
theorem netl_d_0 (x : Nl) (s s0 : ByteArray) (r : List ByteArray) (NB B lo : Nat) (w : World) (hW : wrdS 32 s = s0 :: r) (hs : s.size ≤ 1048576) (hx : BoxN w NB lo x) (hG : Glob B w) (hB : B ≤ NB) (zs : List Int) (WD LN : Int) (hkl : kindL s0.data.toList = some 0) (hn : numsL (lsts r) = some zs) (hz : zs.length = 5) (hwd : zs[3]? = some WD) (hln : zs[4]? = some LN) (hds : x.ds.length ≤ 24) :
    Calls Tryd.prog 37 #[.pointer (some ⟨NB, 0, none⟩), .string s, .bool false] w fun e w' => e = .returned (.bool (lineL false x (lsts (s0 :: r))).isSome) ∧ (∀ y, lineL false x (lsts (s0 :: r)) = some y → BoxN w' NB lo y) ∧ Below NB w w' := by
  have HL : Hid (lineL false x (lsts (s0 :: r)) = some { x with ds := x.ds ++ [⟨0, zs.take 3, WD, LN⟩] }) := Lib.hid (by
    have hk : ¬ s0.data.toList = wPortL := by
      intro e
      rw [e] at hkl
      exact absurd hkl (by decide)
    unfold lsts lineL
    simp only [List.map_cons, hk, Bool.false_eq_true, if_false, hkl]
    rw [show numsL (r.map fun b : ByteArray => b.data.toList) = some zs from hn]
    dsimp only
    rw [show pinN 0 = 3 from rfl, if_pos hz, hwd, hln]
    rfl)
  have hrl2 : r.length = 5 := by have := (numsL_words hn).1; rw [hz] at this; simpa [lsts] using this.symm
  have HCT : Hid (cntB (numsL (lsts r)) 5 = true) := Lib.hid (by
    rw [hn, show cntB (some zs) 5 = ((zs.length : Int) == 5) from rfl, hz]
    rfl)
  have HN := Lib.hid hn
  have HZ := Lib.hid hz
  have HWD := Lib.hid (And.intro hwd hln)
  have HRL := Lib.hid hrl2
  have hnb := hx.lt
  have HSP := Lib.hid (fun w hG => strings_Split_any s B w hs hG)
  have HW := Lib.hid hW
  have HX := Lib.hid hx
  have HG := Lib.hid hG
  have hsw := wrd_size 32 s
  rw [hW] at hsw
  have HWZ : Hid (∀ y ∈ s0 :: r, y.size ≤ 1048576) := Lib.hid (fun y hy => by have := hsw.1 y hy; omega)
  have hrl : r.length ≤ 1048576 := by have := hsw.2.1; simp at this; omega
  have e0 := nets_word s0
  have ep := port_word s0
  have en := word_n s0
  have eq := word_p s0
  have er := word_r s0
  have hks : s0.data.toList = [110] := by
    obtain ⟨h1, -⟩ := kindL_word hkl
    rw [← h1]; rfl
  have hs0 : s0 = ⟨#[110]⟩ := ba_ext (by rw [hks])
  rw [decide_eq_false (by rw [hks]; decide)] at e0
  rw [decide_eq_false (by rw [hks]; decide)] at ep
  rw [decide_eq_true hks] at en
  rw [decide_eq_false (by rw [hks]; decide)] at eq
  rw [decide_eq_false (by rw [hks]; decide)] at er
  have HIX : Hid (∀ (w : World) (g : Nat), Blk w g #[.string ⟨#[110]⟩, .string ⟨#[112]⟩, .string ⟨#[114]⟩] 9 → Calls Tryd.prog 70 #[.slice (some ⟨g, 0, none⟩) 3 3, .string s0] w fun e w' => e = .returned (.int .i64 0) ∧ w' = w) := Lib.hid (fun w g hB => by
    have h := Tryd.slices_Index_string g 0 3 3 [⟨#[110]⟩, ⟨#[112]⟩, ⟨#[114]⟩] s0 w (by decide) (by decide) (fun j hj => by
      rw [hB.cell]
      match j, hj with
      | 0, _ => rfl
      | 1, _ => rfl
      | 2, _ => rfl
      | j + 3, hj => simp at hj; omega)
    have e : Go.Lib.idxOfS ([⟨#[110]⟩, ⟨#[112]⟩, ⟨#[114]⟩].take 3) s0 = 0 := by rw [hs0]; decide
    rw [e] at h
    exact h)
  have HPC : Hid (∀ w : World, Calls Tryd.prog 71 #[.int .i64 0] w fun e w' => e = .returned (.int .i64 3) ∧ w = w') := Lib.hid (fun w => pinCount_any 0 w)
  have HNU := Lib.hid (fun v ss cnt w h hs hl hB hG => netNumbers_any v ss cnt B w h hs hl hB hG)
  clear hkl hks hs0 hn hz hwd hln hrl2
  clear hx hG hW hsw
  go_enter Tryd.func37, Tryd.ntmps37
  go_wp2_with fail
  refine (HSP.out w HG.out).mono ?_
  rintro e w1 ⟨rfl, hst, hb1⟩
  rw [HW.out] at hst ⊢
  rw [show (s0 :: r).length = r.length + 1 from rfl] at hst ⊢
  have q0 : w1.cell? ⟨w.heap.size, 0, none⟩ = some (.string s0) := str_cell hst 0 s0 rfl
  have lg := lt_of_cell q0
  dsimp only at lg
  have hbN : Below NB w w1 := ⟨hb1.os, hb1.tape, hb1.output, hb1.size, fun k hk => hb1.block k (by omega)⟩
  rw [HRL.out] at hst ⊢
  have HWT : Hid (StrSl w1 (.slice (some ⟨w.heap.size, 1, none⟩) 5 5) r) := Lib.hid hst.tail.2.2
  have HK0 := HRL
  clear hst
  go_wp2_with fail
  refine (HIX.out (w1.alloc (.cells #[.string ⟨#[110]⟩, .string ⟨#[112]⟩, .string ⟨#[114]⟩] 9)) w1.heap.size (Blk.new _ rfl)).mono ?_
  rintro e w2 ⟨rfl, rfl⟩
  have hal : Below w1.heap.size w1 (w1.alloc (.cells #[.string ⟨#[110]⟩, .string ⟨#[112]⟩, .string ⟨#[114]⟩] 9)) := (Below.refl _ w1).alloc (Nat.le_refl _) _
  have HWT2 := Lib.hid (HWT.out.by hal)
  have hb2 : Below w.heap.size w (w1.alloc (.cells #[.string ⟨#[110]⟩, .string ⟨#[112]⟩, .string ⟨#[114]⟩] 9)) := below_on hal hb1
  have q1 := cell_by' hal q0
  have lg1 := lt_of_cell q1
  dsimp only at lg1
  clear hal HWT q0 lg hbN hb1
  generalize w1.alloc (.cells #[.string ⟨#[110]⟩, .string ⟨#[112]⟩, .string ⟨#[114]⟩] 9) = w2 at *
  go_wp2_with fail
  refine (HPC.out w2).mono ?_
  rintro e w3 ⟨rfl, rfl⟩
  go_wp2_with fail
  refine (HNU.out _ r 5 w2 HWT2.out (fun y hy => HWZ.out y (List.mem_cons_of_mem _ hy)) (by have := HK0.out; omega) (by have := hb2.size; omega) (HG.out.by hb2 (by omega))).mono ?_
  rintro e w3 ⟨v2, rfl, hzs, hb3⟩
  have hbM0 : Below w.heap.size w w3 := below_on hb3 hb2
  have hbM : Below NB w w3 := ⟨hbM0.os, hbM0.tape, hbM0.output, hbM0.size, fun k hk => hbM0.block k (by omega)⟩
  have q2 := cell_by' hb3 q1
  clear q1 lg1 HWT2
  rw [HCT.out]
  have hB2 := hzs _ HN.out
  rcases hB2.own with ⟨_, _, _, h0⟩ | ⟨G, c5, cs, rfl, hG1, hG2, hl1, hl2, hBk, hcell⟩
  · have := HZ.out; rw [h0] at this; simp at this
  rw [HZ.out] at hl1 ⊢
  have p1 : w3.cell? ⟨G, 3, none⟩ = some (.int .i64 WD) := (hBk.cell _).trans (hcell _ _ HWD.out.1)
  have p2 : w3.cell? ⟨G, 4, none⟩ = some (.int .i64 LN) := (hBk.cell _).trans (hcell _ _ HWD.out.2)
  have HPI : Hid (OwnR w3 G (G + 1) (.slice (some ⟨G, 0, none⟩) 3 3) (zs.take 3)) := Lib.hid (.inr ⟨G, 3, cs, by rw [List.length_take, HZ.out]; rfl, Nat.le_refl _, Nat.lt_succ_self _, by rw [List.length_take, HZ.out]; decide, by decide, hBk, fun i y hy => hcell i y (by
    have := (List.getElem?_eq_some_iff.1 hy).1
    rw [List.length_take] at this
    rw [List.getElem?_take_of_lt (by omega)] at hy
    exact hy)⟩)
  obtain ⟨mid, dv, pv, L, kN1, hlo, hP1, hO1, hL1, hdn⟩ := HX.out
  have hmid : mid ≤ w.heap.size := hO1.1
  obtain ⟨ll, hll⟩ : ∃ q, L.length = q := ⟨_, rfl⟩
  have hllb : ll ≤ 24 := by rw [← hll, ← List.length_map (f := fun t : Tr => t.1), hL1]; exact hds
  obtain ⟨a3, c3, rfl⟩ := hO1.sized
  obtain ⟨a4, c4, rfl⟩ := hP1.sized
  rw [hll] at hO1 kN1
  have HLL := Lib.hid hll
  have HL1 := Lib.hid hL1
  have HO2 := Lib.hid (hO1.by hb2)
  have HP2 := Lib.hid (hP1.by hb2)
  have kN := Blk.by hbM0 kN1
  have hw2s := hb2.size
  have hw3s := hb3.size
  have hGl := hBk.lt
  have hc53 : (3 : Int) ≤ (c5 : Int) := by omega
  have hc54 : 3 ≤ c5 := by omega
  have hw4 : IntKind.i64.wrap 4 = 4 := rfl
  have lz := lt_of_cell p1
  dsimp only at lz
  clear hb2 kN1 hP1 hO1 hL1 hll hdn hB2 hBk hcell hl1 hzs hbM0
  go_upto_region 24 with fail
  have hS : (fun w' : World => Blk w' NB #[.int .i64 x.nets, .slice a3 ll c3, .slice a4 x.ps.length c4] 31 ∧ w'.cell? ⟨G, 3, none⟩ = some (.int .i64 WD) ∧ w'.cell? ⟨G, 4, none⟩ = some (.int .i64 LN)) { w3 with drawn := w3.drawn + 1 } := ⟨kN.drew, p1, p2⟩
  refine wp_region_any (by kernel_rfl) (wpAny_of_E (S := (fun w' : World => Blk w' NB #[.int .i64 x.nets, .slice a3 ll c3, .slice a4 x.ps.length c4] 31 ∧ w'.cell? ⟨G, 3, none⟩ = some (.int .i64 WD) ∧ w'.cell? ⟨G, 4, none⟩ = some (.int .i64 LN))) (l := 24) _ _ _ _ ?_)
  change wpAnyE _ _ _ _ _ _ _ _ _ w3.drew
  refine wpAnyE_takeL (i := 0) (v := ?_) rfl (by kernel_rfl) (fun _ _ _ h => h) (Or.inl ⟨by rfl, ?_⟩) hS ?_
  rotate_left
  · intro w hSw; (try dsimp only at hSw); have qA := hSw.1.cell; have lA := hSw.1.lt; have qB := hSw.2.1; have lB := lt_of_cell qB; have qC := hSw.2.2; have lC := lt_of_cell qC; (try dsimp only at lB lC); clear hSw; go_simp; (try with_reducible rfl)
  try simp only [Act.put, List.setIfInBounds_toArray, List.set_cons_zero, List.set_cons_succ]
  refine wpAnyE_takeL (i := 1) (v := ?_) rfl (by kernel_rfl) (fun _ _ _ h => h) (Or.inl ⟨by rfl, ?_⟩) hS ?_
  rotate_left
  · intro w hSw; (try dsimp only at hSw); have qA := hSw.1.cell; have lA := hSw.1.lt; have qB := hSw.2.1; have lB := lt_of_cell qB; have qC := hSw.2.2; have lC := lt_of_cell qC; (try dsimp only at lB lC); clear hSw; go_simp; (try with_reducible rfl)
  try simp only [Act.put, List.setIfInBounds_toArray, List.set_cons_zero, List.set_cons_succ]
  refine wpAnyE_takeL (i := 2) (v := ?_) rfl (by kernel_rfl) (fun _ _ _ h => h) (Or.inl ⟨by rfl, ?_⟩) hS ?_
  rotate_left
  · intro w hSw; (try dsimp only at hSw); have qA := hSw.1.cell; have lA := hSw.1.lt; have qB := hSw.2.1; have lB := lt_of_cell qB; have qC := hSw.2.2; have lC := lt_of_cell qC; (try dsimp only at lB lC); clear hSw; go_simp; (try with_reducible rfl)
  try simp only [Act.put, List.setIfInBounds_toArray, List.set_cons_zero, List.set_cons_succ]
  refine wpAnyE_takeL (i := 3) (v := ?_) rfl (by kernel_rfl) (fun _ _ _ h => h) (Or.inl ⟨by rfl, ?_⟩) hS ?_
  rotate_left
  · intro w hSw; (try dsimp only at hSw); have qA := hSw.1.cell; have lA := hSw.1.lt; have qB := hSw.2.1; have lB := lt_of_cell qB; have qC := hSw.2.2; have lC := lt_of_cell qC; (try dsimp only at lB lC); clear hSw; go_simp; (try with_reducible rfl)
  try simp only [Act.put, List.setIfInBounds_toArray, List.set_cons_zero, List.set_cons_succ]
  refine wpAnyE_takeL (i := 4) (v := ?_) rfl (by kernel_rfl) (fun _ _ _ h => h) (Or.inl ⟨by rfl, ?_⟩) hS ?_
  rotate_left
  · intro w hSw; (try dsimp only at hSw); have qA := hSw.1.cell; have lA := hSw.1.lt; have qB := hSw.2.1; have lB := lt_of_cell qB; have qC := hSw.2.2; have lC := lt_of_cell qC; (try dsimp only at lB lC); clear hSw; go_simp; (try with_reducible rfl)
  try simp only [Act.put, List.setIfInBounds_toArray, List.set_cons_zero, List.set_cons_succ]
  refine wpAnyE_takeL (i := 5) (v := ?_) rfl (by kernel_rfl) (fun _ _ _ h => h) (Or.inl ⟨by rfl, ?_⟩) hS ?_
  rotate_left
  · intro w hSw; (try dsimp only at hSw); have qA := hSw.1.cell; have lA := hSw.1.lt; have qB := hSw.2.1; have lB := lt_of_cell qB; have qC := hSw.2.2; have lC := lt_of_cell qC; (try dsimp only at lB lC); clear hSw; go_simp; (try with_reducible rfl)
  try simp only [Act.put, List.setIfInBounds_toArray, List.set_cons_zero, List.set_cons_succ]
  refine wpAnyE_takeL (i := 6) (v := ?_) rfl (by kernel_rfl) (fun _ _ _ h => h) (Or.inl ⟨by rfl, ?_⟩) hS ?_
  rotate_left
  · intro w hSw; (try dsimp only at hSw); have qA := hSw.1.cell; have lA := hSw.1.lt; have qB := hSw.2.1; have lB := lt_of_cell qB; have qC := hSw.2.2; have lC := lt_of_cell qC; (try dsimp only at lB lC); clear hSw; go_simp; (try with_reducible rfl)
  try simp only [Act.put, List.setIfInBounds_toArray, List.set_cons_zero, List.set_cons_succ]
  refine wpAnyE_takeL (i := 7) (v := ?_) rfl (by kernel_rfl) (fun _ _ _ h => h) (Or.inl ⟨by rfl, ?_⟩) hS ?_
  rotate_left
  · intro w hSw; (try dsimp only at hSw); have qA := hSw.1.cell; have lA := hSw.1.lt; have qB := hSw.2.1; have lB := lt_of_cell qB; have qC := hSw.2.2; have lC := lt_of_cell qC; (try dsimp only at lB lC); clear hSw; go_simp; (try with_reducible rfl)
  try simp only [Act.put, List.setIfInBounds_toArray, List.set_cons_zero, List.set_cons_succ]
  refine wpAnyE_takeL (i := 8) (v := ?_) rfl (by kernel_rfl) (fun _ _ _ h => h) (Or.inl ⟨by rfl, ?_⟩) hS ?_
  rotate_left
  · intro w hSw; (try dsimp only at hSw); have qA := hSw.1.cell; have lA := hSw.1.lt; have qB := hSw.2.1; have lB := lt_of_cell qB; have qC := hSw.2.2; have lC := lt_of_cell qC; (try dsimp only at lB lC); clear hSw; go_simp; (try with_reducible rfl)
  try simp only [Act.put, List.setIfInBounds_toArray, List.set_cons_zero, List.set_cons_succ]
  refine wpAnyE_takeL (i := 9) (v := ?_) rfl (by kernel_rfl) (fun _ _ _ h => h) (Or.inl ⟨by rfl, ?_⟩) hS ?_
  rotate_left
  · intro w hSw; (try dsimp only at hSw); have qA := hSw.1.cell; have lA := hSw.1.lt; have qB := hSw.2.1; have lB := lt_of_cell qB; have qC := hSw.2.2; have lC := lt_of_cell qC; (try dsimp only at lB lC); clear hSw; go_simp; (try with_reducible rfl)
  try simp only [Act.put, List.setIfInBounds_toArray, List.set_cons_zero, List.set_cons_succ]
  refine wpAnyE_takeL (i := 10) (v := ?_) rfl (by kernel_rfl) (fun _ _ _ h => h) (Or.inl ⟨by rfl, ?_⟩) hS ?_
  rotate_left
  · intro w hSw; (try dsimp only at hSw); have qA := hSw.1.cell; have lA := hSw.1.lt; have qB := hSw.2.1; have lB := lt_of_cell qB; have qC := hSw.2.2; have lC := lt_of_cell qC; (try dsimp only at lB lC); clear hSw; go_simp; (try with_reducible rfl)
  try simp only [Act.put, List.setIfInBounds_toArray, List.set_cons_zero, List.set_cons_succ]
  refine wpAnyE_takeL (i := 11) (v := ?_) rfl (by kernel_rfl) (fun _ _ _ h => h) (Or.inl ⟨by rfl, ?_⟩) hS ?_
  rotate_left
  · intro w hSw; (try dsimp only at hSw); have qA := hSw.1.cell; have lA := hSw.1.lt; have qB := hSw.2.1; have lB := lt_of_cell qB; have qC := hSw.2.2; have lC := lt_of_cell qC; (try dsimp only at lB lC); clear hSw; go_simp; (try with_reducible rfl)
  try simp only [Act.put, List.setIfInBounds_toArray, List.set_cons_zero, List.set_cons_succ]
  refine wpAnyE_takeL (i := 12) (v := ?_) rfl (by kernel_rfl) (fun _ _ _ h => h) (Or.inl ⟨by rfl, ?_⟩) hS ?_
  rotate_left
  · intro w hSw; (try dsimp only at hSw); have qA := hSw.1.cell; have lA := hSw.1.lt; have qB := hSw.2.1; have lB := lt_of_cell qB; have qC := hSw.2.2; have lC := lt_of_cell qC; (try dsimp only at lB lC); clear hSw; go_simp; (try with_reducible rfl)
  try simp only [Act.put, List.setIfInBounds_toArray, List.set_cons_zero, List.set_cons_succ]
  refine wpAnyE_takeL (i := 13) (v := ?_) rfl (by kernel_rfl) (fun _ _ _ h => h) (Or.inl ⟨by rfl, ?_⟩) hS ?_
  rotate_left
  · intro w hSw; (try dsimp only at hSw); have qA := hSw.1.cell; have lA := hSw.1.lt; have qB := hSw.2.1; have lB := lt_of_cell qB; have qC := hSw.2.2; have lC := lt_of_cell qC; (try dsimp only at lB lC); clear hSw; go_simp; (try with_reducible rfl)
  try simp only [Act.put, List.setIfInBounds_toArray, List.set_cons_zero, List.set_cons_succ]
  refine wpAnyE_takeL (i := 14) (v := ?_) rfl (by kernel_rfl) (fun _ _ _ h => h) (Or.inl ⟨by rfl, ?_⟩) hS ?_
  rotate_left
  · intro w hSw; (try dsimp only at hSw); have qA := hSw.1.cell; have lA := hSw.1.lt; have qB := hSw.2.1; have lB := lt_of_cell qB; have qC := hSw.2.2; have lC := lt_of_cell qC; (try dsimp only at lB lC); clear hSw; go_simp; (try with_reducible rfl)
  try simp only [Act.put, List.setIfInBounds_toArray, List.set_cons_zero, List.set_cons_succ]
  refine wpAnyE_takeL (i := 15) (v := ?_) rfl (by kernel_rfl) (fun _ _ _ h => h) (Or.inl ⟨by rfl, ?_⟩) hS ?_
  rotate_left
  · intro w hSw; (try dsimp only at hSw); have qA := hSw.1.cell; have lA := hSw.1.lt; have qB := hSw.2.1; have lB := lt_of_cell qB; have qC := hSw.2.2; have lC := lt_of_cell qC; (try dsimp only at lB lC); clear hSw; go_simp; (try with_reducible rfl)
  try simp only [Act.put, List.setIfInBounds_toArray, List.set_cons_zero, List.set_cons_succ]
  refine wpAnyE_takeL (i := 16) (v := ?_) rfl (by kernel_rfl) (fun _ _ _ h => h) (Or.inl ⟨by rfl, ?_⟩) hS ?_
  rotate_left
  · intro w hSw; (try dsimp only at hSw); have qA := hSw.1.cell; have lA := hSw.1.lt; have qB := hSw.2.1; have lB := lt_of_cell qB; have qC := hSw.2.2; have lC := lt_of_cell qC; (try dsimp only at lB lC); clear hSw; go_simp; (try with_reducible rfl)
  try simp only [Act.put, List.setIfInBounds_toArray, List.set_cons_zero, List.set_cons_succ]
  refine wpAnyE_takeL (i := 17) (v := ?_) rfl (by kernel_rfl) (fun _ _ _ h => h) (Or.inl ⟨by rfl, ?_⟩) hS ?_
  rotate_left
  · intro w hSw; (try dsimp only at hSw); have qA := hSw.1.cell; have lA := hSw.1.lt; have qB := hSw.2.1; have lB := lt_of_cell qB; have qC := hSw.2.2; have lC := lt_of_cell qC; (try dsimp only at lB lC); clear hSw; go_simp; (try with_reducible rfl)
  try simp only [Act.put, List.setIfInBounds_toArray, List.set_cons_zero, List.set_cons_succ]
  refine wpAnyE_takeL (i := 18) (v := ?_) rfl (by kernel_rfl) (fun _ _ _ h => h) (Or.inl ⟨by rfl, ?_⟩) hS ?_
  rotate_left
  · intro w hSw; (try dsimp only at hSw); have qA := hSw.1.cell; have lA := hSw.1.lt; have qB := hSw.2.1; have lB := lt_of_cell qB; have qC := hSw.2.2; have lC := lt_of_cell qC; (try dsimp only at lB lC); clear hSw; go_simp; (try with_reducible rfl)
  try simp only [Act.put, List.setIfInBounds_toArray, List.set_cons_zero, List.set_cons_succ]
  refine wpAnyE_takeL (i := 19) (v := ?_) rfl (by kernel_rfl) (fun _ _ _ h => h) (Or.inl ⟨by rfl, ?_⟩) hS ?_
  rotate_left
  · intro w hSw; (try dsimp only at hSw); have qA := hSw.1.cell; have lA := hSw.1.lt; have qB := hSw.2.1; have lB := lt_of_cell qB; have qC := hSw.2.2; have lC := lt_of_cell qC; (try dsimp only at lB lC); clear hSw; go_simp; (try with_reducible rfl)
  try simp only [Act.put, List.setIfInBounds_toArray, List.set_cons_zero, List.set_cons_succ]
  obtain ⟨y0, hy0⟩ : ∃ q, q = w3.drew := ⟨_, rfl⟩
  have hbc : Below w3.heap.size w3 y0 := by rw [hy0]; exact (Below.refl _ w3).drew
  have kNc := Blk.by hbc kN
  have p1c := cell_by' hbc p1
  have p2c := cell_by' hbc p2
  rw [← hy0]
  clear hy0
  refine wpAnyE_oneL (k := 20) (by kernel_rfl) rfl (fun K hK => ?_)
  go_simp
  have hal : Below y0.heap.size y0 (y0.alloc (.cells #[.int .i64 0, .slice (some ⟨G, 0, none⟩) 3 3, .int .i64 WD, .int .i64 LN] 52)) := (Below.refl _ y0).alloc (Nat.le_refl _) _
  have hsz0 := hbc.size
  replace kNc := Blk.by hal kNc
  replace p1c := cell_by' hal p1c
  replace p2c := cell_by' hal p2c
  replace hbc := below_on hal hbc
  have kD : Blk (y0.alloc (.cells #[.int .i64 0, .slice (some ⟨G, 0, none⟩) 3 3, .int .i64 WD, .int .i64 LN] 52)) y0.heap.size #[.int .i64 0, .slice (some ⟨G, 0, none⟩) 3 3, .int .i64 WD, .int .i64 LN] 52 := Blk.new _ rfl
  refine hK.out _ _ (fun _ => ⟨kNc, p1c, p2c⟩) ?_
  try simp only [Act.put, List.setIfInBounds_toArray, List.set_cons_zero, List.set_cons_succ]
  clear hal hK
  generalize y0.alloc (.cells #[.int .i64 0, .slice (some ⟨G, 0, none⟩) 3 3, .int .i64 WD, .int .i64 LN] 52) = y1 at *
  generalize y0.heap.size = DB at *
  refine wpAnyE_oneL (k := 21) (by kernel_rfl) rfl (fun K hK => ?_)
  have hbA : Below w2.heap.size w2 y1 := below_on hbc hb3
  have hOy := HO2.out.by hbA
  refine step_appT (by rfl) _ _ (by rfl) mid (.slice a3 ll c3) ll (tcells L) (by rfl) (by have := hOy.2.1; rwa [HLL.out] at this) ⟨DB, 0, none⟩ 1 1 [.int .i64 0, (.slice (some ⟨G, 0, none⟩) 3 3), .int .i64 WD, .int .i64 LN] (by rfl) rfl (World.news_of_block (cs := #[.int .i64 0, .slice (some ⟨G, 0, none⟩) 3 3, .int .i64 WD, .int .i64 LN]) kD) (fun u hu => by
    simp at hu
    rcases hu with rfl | rfl | rfl | rfl <;> rfl) (by decide) (by omega) hOy.1 ?_
  intro g cb y2 hrow hgr hg
  have hown := HO2.out.2.1.lt
  have hNy := kNc.lt
  have kN3 : Blk y2 NB #[.int .i64 x.nets, .slice a3 ll c3, .slice a4 x.ps.length c4] 31 := (hgr.block _ kNc.lt (fun e => by have := hown _ e.symm; omega)).trans kNc
  have hGy : G < y1.heap.size := by have := hbc.size; omega
  have p1d : y2.cell? ⟨G, 3, none⟩ = some (.int .i64 WD) := hgr.cell p1c (fun e => by have := hown _ e.symm; dsimp only at this; omega)
  have p2d : y2.cell? ⟨G, 4, none⟩ = some (.int .i64 LN) := hgr.cell p2c (fun e => by have := hown _ e.symm; dsimp only at this; omega)
  have hP1 := HP2.out.by hbA
  have hP3 : BldP y2 lo mid (.slice a4 x.ps.length c4) x.ps := ⟨Nat.le_trans hP1.1 hgr.size, row_same hP1.2.1 (fun q hq => hgr.block q (hP1.2.1.lt q hq).2 (fun e => by have := hP1.2.2 q hq; have := hown _ e.symm; omega)), hP1.2.2⟩
  have hPI : OwnR y1 G (G + 1) (.slice (some ⟨G, 0, none⟩) 3 3) (zs.take 3) := HPI.out.keep (hbc.block _ hGl)
  have hO3 := Out.push (f := G) (pv := (.slice (some ⟨G, 0, none⟩) 3 3)) (x := ⟨0, zs.take 3, WD, LN⟩) HO2.out hbA HLL.out hPI hG1 hGy hgr hg hrow
  have hb4 : Below NB w3 y2 := (below_less hbc (by omega)).trans ⟨hgr.os, hgr.tape, hgr.output, hgr.size, fun k hk => hgr.block k (by omega) (fun e => by have := hown _ e.symm; omega)⟩
  refine hK.out _ _ (fun _ => ⟨kN3, p1d, p2d⟩) ?_
  try simp only [Act.put, List.setIfInBounds_toArray, List.set_cons_zero, List.set_cons_succ]
  clear hK
  have hS2 : (fun w' : World => Blk w' NB #[.int .i64 x.nets, .slice a3 ll c3, .slice a4 x.ps.length c4] 31 ∧ w'.cell? ⟨G, 3, none⟩ = some (.int .i64 WD) ∧ w'.cell? ⟨G, 4, none⟩ = some (.int .i64 LN)) y2 := ⟨kN3, p1d, p2d⟩
  refine wpAnyE_takeL (i := 22) (v := ?_) rfl (by kernel_rfl) (fun _ _ _ h => h) (Or.inl ⟨by rfl, ?_⟩) hS2 ?_
  rotate_left
  · intro w hSw; (try dsimp only at hSw); have qA := hSw.1.cell; have lA := hSw.1.lt; have qB := hSw.2.1; have lB := lt_of_cell qB; have qC := hSw.2.2; have lC := lt_of_cell qC; (try dsimp only at lB lC); clear hSw; go_simp; (try with_reducible rfl)
  try simp only [Act.put, List.setIfInBounds_toArray, List.set_cons_zero, List.set_cons_succ]
  refine wpAnyE_takeL (i := 23) (v := ?_) rfl (by kernel_rfl) (fun _ _ _ h => h) (Or.inl ⟨by rfl, ?_⟩) hS2 ?_
  rotate_left
  · intro w hSw; (try dsimp only at hSw); have qA := hSw.1.cell; have lA := hSw.1.lt; have qB := hSw.2.1; have lB := lt_of_cell qB; have qC := hSw.2.2; have lC := lt_of_cell qC; (try dsimp only at lB lC); clear hSw; go_simp; (try with_reducible rfl)
  try simp only [Act.put, List.setIfInBounds_toArray, List.set_cons_zero, List.set_cons_succ]
  refine wpAnyE_oneL (k := 24) (by kernel_rfl) rfl (fun K hK => ?_)
  have cN := kN3.cell
  have fN := kN3.free
  have lN := kN3.lt
  go_simp
  refine hK.out _ _ (fun h => absurd rfl h) ?_
  refine wpAnyE_done (by kernel_rfl) ?_ _
  clear hS hS2 hK p1c p2c p1 p2 p1d p2d kN kNc kD
  have hbf : Below NB w (y2.setCell ⟨NB, 1, none⟩ (.slice (some ⟨g, 0, none⟩) (ll + 1) cb)) := (hbM.trans hb4).setCell (Nat.le_refl _) _
  have HBX := Lib.hid (BoxN.dev (d := ⟨0, zs.take 3, WD, LN⟩) kN3 hlo hP3 hO3 (by rw [List.map_append, HL1.out]; rfl))
  clear cN fN lN kN3 hb4 hP3 hO3 hP1 hPI hown hgr hg hrow hOy
  generalize y2.setCell ⟨NB, 1, none⟩ (.slice (some ⟨g, 0, none⟩) (ll + 1) cb) = y3 at *
  go_wp2
  refine bodyPost_ret (v := .bool true) (by simp [results, Tryd.results37, go_sem, *]) rfl ⟨by rw [HL.out]; rfl, fun y hy => ?_, hbf⟩
  rw [HL.out] at hy
  obtain rfl := (Option.some.inj hy).symm
  exact HBX.out

set_option maxRecDepth 100000 in
set_option maxHeartbeats 2000000 in
theorem netl_d_1 (x : Nl) (s s0 : ByteArray) (r : List ByteArray) (NB B lo : Nat) (w : World) (hW : wrdS 32 s = s0 :: r) (hs : s.size ≤ 1048576) (hx : BoxN w NB lo x) (hG : Glob B w) (hB : B ≤ NB) (zs : List Int) (WD LN : Int) (hkl : kindL s0.data.toList = some 1) (hn : numsL (lsts r) = some zs) (hz : zs.length = 5) (hwd : zs[3]? = some WD) (hln : zs[4]? = some LN) (hds : x.ds.length ≤ 24) :
    Calls Tryd.prog 37 #[.pointer (some ⟨NB, 0, none⟩), .string s, .bool false] w fun e w' => e = .returned (.bool (lineL false x (lsts (s0 :: r))).isSome) ∧ (∀ y, lineL false x (lsts (s0 :: r)) = some y → BoxN w' NB lo y) ∧ Below NB w w' := by
  have HL : Hid (lineL false x (lsts (s0 :: r)) = some { x with ds := x.ds ++ [⟨1, zs.take 3, WD, LN⟩] }) := Lib.hid (by
    have hk : ¬ s0.data.toList = wPortL := by
      intro e
      rw [e] at hkl
      exact absurd hkl (by decide)
    unfold lsts lineL
    simp only [List.map_cons, hk, Bool.false_eq_true, if_false, hkl]
    rw [show numsL (r.map fun b : ByteArray => b.data.toList) = some zs from hn]
    dsimp only
    rw [show pinN 1 = 3 from rfl, if_pos hz, hwd, hln]
    rfl)
  have hrl2 : r.length = 5 := by have := (numsL_words hn).1; rw [hz] at this; simpa [lsts] using this.symm
  have HCT : Hid (cntB (numsL (lsts r)) 5 = true) := Lib.hid (by
    rw [hn, show cntB (some zs) 5 = ((zs.length : Int) == 5) from rfl, hz]
    rfl)
  have HN := Lib.hid hn
  have HZ := Lib.hid hz
  have HWD := Lib.hid (And.intro hwd hln)
  have HRL := Lib.hid hrl2
  have hnb := hx.lt
  have HSP := Lib.hid (fun w hG => strings_Split_any s B w hs hG)
  have HW := Lib.hid hW
  have HX := Lib.hid hx
  have HG := Lib.hid hG
  have hsw := wrd_size 32 s
  rw [hW] at hsw
  have HWZ : Hid (∀ y ∈ s0 :: r, y.size ≤ 1048576) := Lib.hid (fun y hy => by have := hsw.1 y hy; omega)
  have hrl : r.length ≤ 1048576 := by have := hsw.2.1; simp at this; omega
  have e0 := nets_word s0
  have ep := port_word s0
  have en := word_n s0
  have eq := word_p s0
  have er := word_r s0
  have hks : s0.data.toList = [112] := by
    obtain ⟨h1, -⟩ := kindL_word hkl
    rw [← h1]; rfl
  have hs0 : s0 = ⟨#[112]⟩ := ba_ext (by rw [hks])
  rw [decide_eq_false (by rw [hks]; decide)] at e0
  rw [decide_eq_false (by rw [hks]; decide)] at ep
  rw [decide_eq_false (by rw [hks]; decide)] at en
  rw [decide_eq_true hks] at eq
  rw [decide_eq_false (by rw [hks]; decide)] at er
  have HIX : Hid (∀ (w : World) (g : Nat), Blk w g #[.string ⟨#[110]⟩, .string ⟨#[112]⟩, .string ⟨#[114]⟩] 9 → Calls Tryd.prog 70 #[.slice (some ⟨g, 0, none⟩) 3 3, .string s0] w fun e w' => e = .returned (.int .i64 1) ∧ w' = w) := Lib.hid (fun w g hB => by
    have h := Tryd.slices_Index_string g 0 3 3 [⟨#[110]⟩, ⟨#[112]⟩, ⟨#[114]⟩] s0 w (by decide) (by decide) (fun j hj => by
      rw [hB.cell]
      match j, hj with
      | 0, _ => rfl
      | 1, _ => rfl
      | 2, _ => rfl
      | j + 3, hj => simp at hj; omega)
    have e : Go.Lib.idxOfS ([⟨#[110]⟩, ⟨#[112]⟩, ⟨#[114]⟩].take 3) s0 = 1 := by rw [hs0]; decide
    rw [e] at h
    exact h)
  have HPC : Hid (∀ w : World, Calls Tryd.prog 71 #[.int .i64 1] w fun e w' => e = .returned (.int .i64 3) ∧ w = w') := Lib.hid (fun w => pinCount_any 1 w)
  have HNU := Lib.hid (fun v ss cnt w h hs hl hB hG => netNumbers_any v ss cnt B w h hs hl hB hG)
  clear hkl hks hs0 hn hz hwd hln hrl2
  clear hx hG hW hsw
  go_enter Tryd.func37, Tryd.ntmps37
  go_wp2_with fail
  refine (HSP.out w HG.out).mono ?_
  rintro e w1 ⟨rfl, hst, hb1⟩
  rw [HW.out] at hst ⊢
  rw [show (s0 :: r).length = r.length + 1 from rfl] at hst ⊢
  have q0 : w1.cell? ⟨w.heap.size, 0, none⟩ = some (.string s0) := str_cell hst 0 s0 rfl
  have lg := lt_of_cell q0
  dsimp only at lg
  have hbN : Below NB w w1 := ⟨hb1.os, hb1.tape, hb1.output, hb1.size, fun k hk => hb1.block k (by omega)⟩
  rw [HRL.out] at hst ⊢
  have HWT : Hid (StrSl w1 (.slice (some ⟨w.heap.size, 1, none⟩) 5 5) r) := Lib.hid hst.tail.2.2
  have HK0 := HRL
  clear hst
  go_wp2_with fail
  refine (HIX.out (w1.alloc (.cells #[.string ⟨#[110]⟩, .string ⟨#[112]⟩, .string ⟨#[114]⟩] 9)) w1.heap.size (Blk.new _ rfl)).mono ?_
  rintro e w2 ⟨rfl, rfl⟩
  have hal : Below w1.heap.size w1 (w1.alloc (.cells #[.string ⟨#[110]⟩, .string ⟨#[112]⟩, .string ⟨#[114]⟩] 9)) := (Below.refl _ w1).alloc (Nat.le_refl _) _
  have HWT2 := Lib.hid (HWT.out.by hal)
  have hb2 : Below w.heap.size w (w1.alloc (.cells #[.string ⟨#[110]⟩, .string ⟨#[112]⟩, .string ⟨#[114]⟩] 9)) := below_on hal hb1
  have q1 := cell_by' hal q0
  have lg1 := lt_of_cell q1
  dsimp only at lg1
  clear hal HWT q0 lg hbN hb1
  generalize w1.alloc (.cells #[.string ⟨#[110]⟩, .string ⟨#[112]⟩, .string ⟨#[114]⟩] 9) = w2 at *
  go_wp2_with fail
  refine (HPC.out w2).mono ?_
  rintro e w3 ⟨rfl, rfl⟩
  go_wp2_with fail
  refine (HNU.out _ r 5 w2 HWT2.out (fun y hy => HWZ.out y (List.mem_cons_of_mem _ hy)) (by have := HK0.out; omega) (by have := hb2.size; omega) (HG.out.by hb2 (by omega))).mono ?_
  rintro e w3 ⟨v2, rfl, hzs, hb3⟩
  have hbM0 : Below w.heap.size w w3 := below_on hb3 hb2
  have hbM : Below NB w w3 := ⟨hbM0.os, hbM0.tape, hbM0.output, hbM0.size, fun k hk => hbM0.block k (by omega)⟩
  have q2 := cell_by' hb3 q1
  clear q1 lg1 HWT2
  rw [HCT.out]
  have hB2 := hzs _ HN.out
  rcases hB2.own with ⟨_, _, _, h0⟩ | ⟨G, c5, cs, rfl, hG1, hG2, hl1, hl2, hBk, hcell⟩
  · have := HZ.out; rw [h0] at this; simp at this
  rw [HZ.out] at hl1 ⊢
  have p1 : w3.cell? ⟨G, 3, none⟩ = some (.int .i64 WD) := (hBk.cell _).trans (hcell _ _ HWD.out.1)
  have p2 : w3.cell? ⟨G, 4, none⟩ = some (.int .i64 LN) := (hBk.cell _).trans (hcell _ _ HWD.out.2)
  have HPI : Hid (OwnR w3 G (G + 1) (.slice (some ⟨G, 0, none⟩) 3 3) (zs.take 3)) := Lib.hid (.inr ⟨G, 3, cs, by rw [List.length_take, HZ.out]; rfl, Nat.le_refl _, Nat.lt_succ_self _, by rw [List.length_take, HZ.out]; decide, by decide, hBk, fun i y hy => hcell i y (by
    have := (List.getElem?_eq_some_iff.1 hy).1
    rw [List.length_take] at this
    rw [List.getElem?_take_of_lt (by omega)] at hy
    exact hy)⟩)
  obtain ⟨mid, dv, pv, L, kN1, hlo, hP1, hO1, hL1, hdn⟩ := HX.out
  have hmid : mid ≤ w.heap.size := hO1.1
  obtain ⟨ll, hll⟩ : ∃ q, L.length = q := ⟨_, rfl⟩
  have hllb : ll ≤ 24 := by rw [← hll, ← List.length_map (f := fun t : Tr => t.1), hL1]; exact hds
  obtain ⟨a3, c3, rfl⟩ := hO1.sized
  obtain ⟨a4, c4, rfl⟩ := hP1.sized
  rw [hll] at hO1 kN1
  have HLL := Lib.hid hll
  have HL1 := Lib.hid hL1
  have HO2 := Lib.hid (hO1.by hb2)
  have HP2 := Lib.hid (hP1.by hb2)
  have kN := Blk.by hbM0 kN1
  have hw2s := hb2.size
  have hw3s := hb3.size
  have hGl := hBk.lt
  have hc53 : (3 : Int) ≤ (c5 : Int) := by omega
  have hc54 : 3 ≤ c5 := by omega
  have hw4 : IntKind.i64.wrap 4 = 4 := rfl
  have lz := lt_of_cell p1
  dsimp only at lz
  clear hb2 kN1 hP1 hO1 hL1 hll hdn hB2 hBk hcell hl1 hzs hbM0
  go_upto_region 24 with fail
  have hS : (fun w' : World => Blk w' NB #[.int .i64 x.nets, .slice a3 ll c3, .slice a4 x.ps.length c4] 31 ∧ w'.cell? ⟨G, 3, none⟩ = some (.int .i64 WD) ∧ w'.cell? ⟨G, 4, none⟩ = some (.int .i64 LN)) { w3 with drawn := w3.drawn + 1 } := ⟨kN.drew, p1, p2⟩
  refine wp_region_any (by kernel_rfl) (wpAny_of_E (S := (fun w' : World => Blk w' NB #[.int .i64 x.nets, .slice a3 ll c3, .slice a4 x.ps.length c4] 31 ∧ w'.cell? ⟨G, 3, none⟩ = some (.int .i64 WD) ∧ w'.cell? ⟨G, 4, none⟩ = some (.int .i64 LN))) (l := 24) _ _ _ _ ?_)
  change wpAnyE _ _ _ _ _ _ _ _ _ w3.drew
  refine wpAnyE_takeL (i := 0) (v := ?_) rfl (by kernel_rfl) (fun _ _ _ h => h) (Or.inl ⟨by rfl, ?_⟩) hS ?_
  rotate_left
  · intro w hSw; (try dsimp only at hSw); have qA := hSw.1.cell; have lA := hSw.1.lt; have qB := hSw.2.1; have lB := lt_of_cell qB; have qC := hSw.2.2; have lC := lt_of_cell qC; (try dsimp only at lB lC); clear hSw; go_simp; (try with_reducible rfl)
  try simp only [Act.put, List.setIfInBounds_toArray, List.set_cons_zero, List.set_cons_succ]
  refine wpAnyE_takeL (i := 1) (v := ?_) rfl (by kernel_rfl) (fun _ _ _ h => h) (Or.inl ⟨by rfl, ?_⟩) hS ?_
  rotate_left
  · intro w hSw; (try dsimp only at hSw); have qA := hSw.1.cell; have lA := hSw.1.lt; have qB := hSw.2.1; have lB := lt_of_cell qB; have qC := hSw.2.2; have lC := lt_of_cell qC; (try dsimp only at lB lC); clear hSw; go_simp; (try with_reducible rfl)
  try simp only [Act.put, List.setIfInBounds_toArray, List.set_cons_zero, List.set_cons_succ]
  refine wpAnyE_takeL (i := 2) (v := ?_) rfl (by kernel_rfl) (fun _ _ _ h => h) (Or.inl ⟨by rfl, ?_⟩) hS ?_
  rotate_left
  · intro w hSw; (try dsimp only at hSw); have qA := hSw.1.cell; have lA := hSw.1.lt; have qB := hSw.2.1; have lB := lt_of_cell qB; have qC := hSw.2.2; have lC := lt_of_cell qC; (try dsimp only at lB lC); clear hSw; go_simp; (try with_reducible rfl)
  try simp only [Act.put, List.setIfInBounds_toArray, List.set_cons_zero, List.set_cons_succ]
  refine wpAnyE_takeL (i := 3) (v := ?_) rfl (by kernel_rfl) (fun _ _ _ h => h) (Or.inl ⟨by rfl, ?_⟩) hS ?_
  rotate_left
  · intro w hSw; (try dsimp only at hSw); have qA := hSw.1.cell; have lA := hSw.1.lt; have qB := hSw.2.1; have lB := lt_of_cell qB; have qC := hSw.2.2; have lC := lt_of_cell qC; (try dsimp only at lB lC); clear hSw; go_simp; (try with_reducible rfl)
  try simp only [Act.put, List.setIfInBounds_toArray, List.set_cons_zero, List.set_cons_succ]
  refine wpAnyE_takeL (i := 4) (v := ?_) rfl (by kernel_rfl) (fun _ _ _ h => h) (Or.inl ⟨by rfl, ?_⟩) hS ?_
  rotate_left
  · intro w hSw; (try dsimp only at hSw); have qA := hSw.1.cell; have lA := hSw.1.lt; have qB := hSw.2.1; have lB := lt_of_cell qB; have qC := hSw.2.2; have lC := lt_of_cell qC; (try dsimp only at lB lC); clear hSw; go_simp; (try with_reducible rfl)
  try simp only [Act.put, List.setIfInBounds_toArray, List.set_cons_zero, List.set_cons_succ]
  refine wpAnyE_takeL (i := 5) (v := ?_) rfl (by kernel_rfl) (fun _ _ _ h => h) (Or.inl ⟨by rfl, ?_⟩) hS ?_
  rotate_left
  · intro w hSw; (try dsimp only at hSw); have qA := hSw.1.cell; have lA := hSw.1.lt; have qB := hSw.2.1; have lB := lt_of_cell qB; have qC := hSw.2.2; have lC := lt_of_cell qC; (try dsimp only at lB lC); clear hSw; go_simp; (try with_reducible rfl)
  try simp only [Act.put, List.setIfInBounds_toArray, List.set_cons_zero, List.set_cons_succ]
  refine wpAnyE_takeL (i := 6) (v := ?_) rfl (by kernel_rfl) (fun _ _ _ h => h) (Or.inl ⟨by rfl, ?_⟩) hS ?_
  rotate_left
  · intro w hSw; (try dsimp only at hSw); have qA := hSw.1.cell; have lA := hSw.1.lt; have qB := hSw.2.1; have lB := lt_of_cell qB; have qC := hSw.2.2; have lC := lt_of_cell qC; (try dsimp only at lB lC); clear hSw; go_simp; (try with_reducible rfl)
  try simp only [Act.put, List.setIfInBounds_toArray, List.set_cons_zero, List.set_cons_succ]
  refine wpAnyE_takeL (i := 7) (v := ?_) rfl (by kernel_rfl) (fun _ _ _ h => h) (Or.inl ⟨by rfl, ?_⟩) hS ?_
  rotate_left
  · intro w hSw; (try dsimp only at hSw); have qA := hSw.1.cell; have lA := hSw.1.lt; have qB := hSw.2.1; have lB := lt_of_cell qB; have qC := hSw.2.2; have lC := lt_of_cell qC; (try dsimp only at lB lC); clear hSw; go_simp; (try with_reducible rfl)
  try simp only [Act.put, List.setIfInBounds_toArray, List.set_cons_zero, List.set_cons_succ]
  refine wpAnyE_takeL (i := 8) (v := ?_) rfl (by kernel_rfl) (fun _ _ _ h => h) (Or.inl ⟨by rfl, ?_⟩) hS ?_
  rotate_left
  · intro w hSw; (try dsimp only at hSw); have qA := hSw.1.cell; have lA := hSw.1.lt; have qB := hSw.2.1; have lB := lt_of_cell qB; have qC := hSw.2.2; have lC := lt_of_cell qC; (try dsimp only at lB lC); clear hSw; go_simp; (try with_reducible rfl)
  try simp only [Act.put, List.setIfInBounds_toArray, List.set_cons_zero, List.set_cons_succ]
  refine wpAnyE_takeL (i := 9) (v := ?_) rfl (by kernel_rfl) (fun _ _ _ h => h) (Or.inl ⟨by rfl, ?_⟩) hS ?_
  rotate_left
  · intro w hSw; (try dsimp only at hSw); have qA := hSw.1.cell; have lA := hSw.1.lt; have qB := hSw.2.1; have lB := lt_of_cell qB; have qC := hSw.2.2; have lC := lt_of_cell qC; (try dsimp only at lB lC); clear hSw; go_simp; (try with_reducible rfl)
  try simp only [Act.put, List.setIfInBounds_toArray, List.set_cons_zero, List.set_cons_succ]
  refine wpAnyE_takeL (i := 10) (v := ?_) rfl (by kernel_rfl) (fun _ _ _ h => h) (Or.inl ⟨by rfl, ?_⟩) hS ?_
  rotate_left
  · intro w hSw; (try dsimp only at hSw); have qA := hSw.1.cell; have lA := hSw.1.lt; have qB := hSw.2.1; have lB := lt_of_cell qB; have qC := hSw.2.2; have lC := lt_of_cell qC; (try dsimp only at lB lC); clear hSw; go_simp; (try with_reducible rfl)
  try simp only [Act.put, List.setIfInBounds_toArray, List.set_cons_zero, List.set_cons_succ]
  refine wpAnyE_takeL (i := 11) (v := ?_) rfl (by kernel_rfl) (fun _ _ _ h => h) (Or.inl ⟨by rfl, ?_⟩) hS ?_
  rotate_left
  · intro w hSw; (try dsimp only at hSw); have qA := hSw.1.cell; have lA := hSw.1.lt; have qB := hSw.2.1; have lB := lt_of_cell qB; have qC := hSw.2.2; have lC := lt_of_cell qC; (try dsimp only at lB lC); clear hSw; go_simp; (try with_reducible rfl)
  try simp only [Act.put, List.setIfInBounds_toArray, List.set_cons_zero, List.set_cons_succ]
  refine wpAnyE_takeL (i := 12) (v := ?_) rfl (by kernel_rfl) (fun _ _ _ h => h) (Or.inl ⟨by rfl, ?_⟩) hS ?_
  rotate_left
  · intro w hSw; (try dsimp only at hSw); have qA := hSw.1.cell; have lA := hSw.1.lt; have qB := hSw.2.1; have lB := lt_of_cell qB; have qC := hSw.2.2; have lC := lt_of_cell qC; (try dsimp only at lB lC); clear hSw; go_simp; (try with_reducible rfl)
  try simp only [Act.put, List.setIfInBounds_toArray, List.set_cons_zero, List.set_cons_succ]
  refine wpAnyE_takeL (i := 13) (v := ?_) rfl (by kernel_rfl) (fun _ _ _ h => h) (Or.inl ⟨by rfl, ?_⟩) hS ?_
  rotate_left
  · intro w hSw; (try dsimp only at hSw); have qA := hSw.1.cell; have lA := hSw.1.lt; have qB := hSw.2.1; have lB := lt_of_cell qB; have qC := hSw.2.2; have lC := lt_of_cell qC; (try dsimp only at lB lC); clear hSw; go_simp; (try with_reducible rfl)
  try simp only [Act.put, List.setIfInBounds_toArray, List.set_cons_zero, List.set_cons_succ]
  refine wpAnyE_takeL (i := 14) (v := ?_) rfl (by kernel_rfl) (fun _ _ _ h => h) (Or.inl ⟨by rfl, ?_⟩) hS ?_
  rotate_left
  · intro w hSw; (try dsimp only at hSw); have qA := hSw.1.cell; have lA := hSw.1.lt; have qB := hSw.2.1; have lB := lt_of_cell qB; have qC := hSw.2.2; have lC := lt_of_cell qC; (try dsimp only at lB lC); clear hSw; go_simp; (try with_reducible rfl)
  try simp only [Act.put, List.setIfInBounds_toArray, List.set_cons_zero, List.set_cons_succ]
  refine wpAnyE_takeL (i := 15) (v := ?_) rfl (by kernel_rfl) (fun _ _ _ h => h) (Or.inl ⟨by rfl, ?_⟩) hS ?_
  rotate_left
  · intro w hSw; (try dsimp only at hSw); have qA := hSw.1.cell; have lA := hSw.1.lt; have qB := hSw.2.1; have lB := lt_of_cell qB; have qC := hSw.2.2; have lC := lt_of_cell qC; (try dsimp only at lB lC); clear hSw; go_simp; (try with_reducible rfl)
  try simp only [Act.put, List.setIfInBounds_toArray, List.set_cons_zero, List.set_cons_succ]
  refine wpAnyE_takeL (i := 16) (v := ?_) rfl (by kernel_rfl) (fun _ _ _ h => h) (Or.inl ⟨by rfl, ?_⟩) hS ?_
  rotate_left
  · intro w hSw; (try dsimp only at hSw); have qA := hSw.1.cell; have lA := hSw.1.lt; have qB := hSw.2.1; have lB := lt_of_cell qB; have qC := hSw.2.2; have lC := lt_of_cell qC; (try dsimp only at lB lC); clear hSw; go_simp; (try with_reducible rfl)
  try simp only [Act.put, List.setIfInBounds_toArray, List.set_cons_zero, List.set_cons_succ]
  refine wpAnyE_takeL (i := 17) (v := ?_) rfl (by kernel_rfl) (fun _ _ _ h => h) (Or.inl ⟨by rfl, ?_⟩) hS ?_
  rotate_left
  · intro w hSw; (try dsimp only at hSw); have qA := hSw.1.cell; have lA := hSw.1.lt; have qB := hSw.2.1; have lB := lt_of_cell qB; have qC := hSw.2.2; have lC := lt_of_cell qC; (try dsimp only at lB lC); clear hSw; go_simp; (try with_reducible rfl)
  try simp only [Act.put, List.setIfInBounds_toArray, List.set_cons_zero, List.set_cons_succ]
  refine wpAnyE_takeL (i := 18) (v := ?_) rfl (by kernel_rfl) (fun _ _ _ h => h) (Or.inl ⟨by rfl, ?_⟩) hS ?_
  rotate_left
  · intro w hSw; (try dsimp only at hSw); have qA := hSw.1.cell; have lA := hSw.1.lt; have qB := hSw.2.1; have lB := lt_of_cell qB; have qC := hSw.2.2; have lC := lt_of_cell qC; (try dsimp only at lB lC); clear hSw; go_simp; (try with_reducible rfl)
  try simp only [Act.put, List.setIfInBounds_toArray, List.set_cons_zero, List.set_cons_succ]
  refine wpAnyE_takeL (i := 19) (v := ?_) rfl (by kernel_rfl) (fun _ _ _ h => h) (Or.inl ⟨by rfl, ?_⟩) hS ?_
  rotate_left
  · intro w hSw; (try dsimp only at hSw); have qA := hSw.1.cell; have lA := hSw.1.lt; have qB := hSw.2.1; have lB := lt_of_cell qB; have qC := hSw.2.2; have lC := lt_of_cell qC; (try dsimp only at lB lC); clear hSw; go_simp; (try with_reducible rfl)
  try simp only [Act.put, List.setIfInBounds_toArray, List.set_cons_zero, List.set_cons_succ]
  obtain ⟨y0, hy0⟩ : ∃ q, q = w3.drew := ⟨_, rfl⟩
  have hbc : Below w3.heap.size w3 y0 := by rw [hy0]; exact (Below.refl _ w3).drew
  have kNc := Blk.by hbc kN
  have p1c := cell_by' hbc p1
  have p2c := cell_by' hbc p2
  rw [← hy0]
  clear hy0
  refine wpAnyE_oneL (k := 20) (by kernel_rfl) rfl (fun K hK => ?_)
  go_simp
  have hal : Below y0.heap.size y0 (y0.alloc (.cells #[.int .i64 1, .slice (some ⟨G, 0, none⟩) 3 3, .int .i64 WD, .int .i64 LN] 52)) := (Below.refl _ y0).alloc (Nat.le_refl _) _
  have hsz0 := hbc.size
  replace kNc := Blk.by hal kNc
  replace p1c := cell_by' hal p1c
  replace p2c := cell_by' hal p2c
  replace hbc := below_on hal hbc
  have kD : Blk (y0.alloc (.cells #[.int .i64 1, .slice (some ⟨G, 0, none⟩) 3 3, .int .i64 WD, .int .i64 LN] 52)) y0.heap.size #[.int .i64 1, .slice (some ⟨G, 0, none⟩) 3 3, .int .i64 WD, .int .i64 LN] 52 := Blk.new _ rfl
  refine hK.out _ _ (fun _ => ⟨kNc, p1c, p2c⟩) ?_
  try simp only [Act.put, List.setIfInBounds_toArray, List.set_cons_zero, List.set_cons_succ]
  clear hal hK
  generalize y0.alloc (.cells #[.int .i64 1, .slice (some ⟨G, 0, none⟩) 3 3, .int .i64 WD, .int .i64 LN] 52) = y1 at *
  generalize y0.heap.size = DB at *
  refine wpAnyE_oneL (k := 21) (by kernel_rfl) rfl (fun K hK => ?_)
  have hbA : Below w2.heap.size w2 y1 := below_on hbc hb3
  have hOy := HO2.out.by hbA
  refine step_appT (by rfl) _ _ (by rfl) mid (.slice a3 ll c3) ll (tcells L) (by rfl) (by have := hOy.2.1; rwa [HLL.out] at this) ⟨DB, 0, none⟩ 1 1 [.int .i64 1, (.slice (some ⟨G, 0, none⟩) 3 3), .int .i64 WD, .int .i64 LN] (by rfl) rfl (World.news_of_block (cs := #[.int .i64 1, .slice (some ⟨G, 0, none⟩) 3 3, .int .i64 WD, .int .i64 LN]) kD) (fun u hu => by
    simp at hu
    rcases hu with rfl | rfl | rfl | rfl <;> rfl) (by decide) (by omega) hOy.1 ?_
  intro g cb y2 hrow hgr hg
  have hown := HO2.out.2.1.lt
  have hNy := kNc.lt
  have kN3 : Blk y2 NB #[.int .i64 x.nets, .slice a3 ll c3, .slice a4 x.ps.length c4] 31 := (hgr.block _ kNc.lt (fun e => by have := hown _ e.symm; omega)).trans kNc
  have hGy : G < y1.heap.size := by have := hbc.size; omega
  have p1d : y2.cell? ⟨G, 3, none⟩ = some (.int .i64 WD) := hgr.cell p1c (fun e => by have := hown _ e.symm; dsimp only at this; omega)
  have p2d : y2.cell? ⟨G, 4, none⟩ = some (.int .i64 LN) := hgr.cell p2c (fun e => by have := hown _ e.symm; dsimp only at this; omega)
  have hP1 := HP2.out.by hbA
  have hP3 : BldP y2 lo mid (.slice a4 x.ps.length c4) x.ps := ⟨Nat.le_trans hP1.1 hgr.size, row_same hP1.2.1 (fun q hq => hgr.block q (hP1.2.1.lt q hq).2 (fun e => by have := hP1.2.2 q hq; have := hown _ e.symm; omega)), hP1.2.2⟩
  have hPI : OwnR y1 G (G + 1) (.slice (some ⟨G, 0, none⟩) 3 3) (zs.take 3) := HPI.out.keep (hbc.block _ hGl)
  have hO3 := Out.push (f := G) (pv := (.slice (some ⟨G, 0, none⟩) 3 3)) (x := ⟨1, zs.take 3, WD, LN⟩) HO2.out hbA HLL.out hPI hG1 hGy hgr hg hrow
  have hb4 : Below NB w3 y2 := (below_less hbc (by omega)).trans ⟨hgr.os, hgr.tape, hgr.output, hgr.size, fun k hk => hgr.block k (by omega) (fun e => by have := hown _ e.symm; omega)⟩
  refine hK.out _ _ (fun _ => ⟨kN3, p1d, p2d⟩) ?_
  try simp only [Act.put, List.setIfInBounds_toArray, List.set_cons_zero, List.set_cons_succ]
  clear hK
  have hS2 : (fun w' : World => Blk w' NB #[.int .i64 x.nets, .slice a3 ll c3, .slice a4 x.ps.length c4] 31 ∧ w'.cell? ⟨G, 3, none⟩ = some (.int .i64 WD) ∧ w'.cell? ⟨G, 4, none⟩ = some (.int .i64 LN)) y2 := ⟨kN3, p1d, p2d⟩
  refine wpAnyE_takeL (i := 22) (v := ?_) rfl (by kernel_rfl) (fun _ _ _ h => h) (Or.inl ⟨by rfl, ?_⟩) hS2 ?_
  rotate_left
  · intro w hSw; (try dsimp only at hSw); have qA := hSw.1.cell; have lA := hSw.1.lt; have qB := hSw.2.1; have lB := lt_of_cell qB; have qC := hSw.2.2; have lC := lt_of_cell qC; (try dsimp only at lB lC); clear hSw; go_simp; (try with_reducible rfl)
  try simp only [Act.put, List.setIfInBounds_toArray, List.set_cons_zero, List.set_cons_succ]
  refine wpAnyE_takeL (i := 23) (v := ?_) rfl (by kernel_rfl) (fun _ _ _ h => h) (Or.inl ⟨by rfl, ?_⟩) hS2 ?_
  rotate_left
  · intro w hSw; (try dsimp only at hSw); have qA := hSw.1.cell; have lA := hSw.1.lt; have qB := hSw.2.1; have lB := lt_of_cell qB; have qC := hSw.2.2; have lC := lt_of_cell qC; (try dsimp only at lB lC); clear hSw; go_simp; (try with_reducible rfl)
  try simp only [Act.put, List.setIfInBounds_toArray, List.set_cons_zero, List.set_cons_succ]
  refine wpAnyE_oneL (k := 24) (by kernel_rfl) rfl (fun K hK => ?_)
  have cN := kN3.cell
  have fN := kN3.free
  have lN := kN3.lt
  go_simp
  refine hK.out _ _ (fun h => absurd rfl h) ?_
  refine wpAnyE_done (by kernel_rfl) ?_ _
  clear hS hS2 hK p1c p2c p1 p2 p1d p2d kN kNc kD
  have hbf : Below NB w (y2.setCell ⟨NB, 1, none⟩ (.slice (some ⟨g, 0, none⟩) (ll + 1) cb)) := (hbM.trans hb4).setCell (Nat.le_refl _) _
  have HBX := Lib.hid (BoxN.dev (d := ⟨1, zs.take 3, WD, LN⟩) kN3 hlo hP3 hO3 (by rw [List.map_append, HL1.out]; rfl))
  clear cN fN lN kN3 hb4 hP3 hO3 hP1 hPI hown hgr hg hrow hOy
  generalize y2.setCell ⟨NB, 1, none⟩ (.slice (some ⟨g, 0, none⟩) (ll + 1) cb) = y3 at *
  go_wp2
  refine bodyPost_ret (v := .bool true) (by simp [results, Tryd.results37, go_sem, *]) rfl ⟨by rw [HL.out]; rfl, fun y hy => ?_, hbf⟩
  rw [HL.out] at hy
  obtain rfl := (Option.some.inj hy).symm
  exact HBX.out

set_option maxRecDepth 100000 in
set_option maxHeartbeats 2000000 in
theorem netl_d_2 (x : Nl) (s s0 : ByteArray) (r : List ByteArray) (NB B lo : Nat) (w : World) (hW : wrdS 32 s = s0 :: r) (hs : s.size ≤ 1048576) (hx : BoxN w NB lo x) (hG : Glob B w) (hB : B ≤ NB) (zs : List Int) (WD LN : Int) (hkl : kindL s0.data.toList = some 2) (hn : numsL (lsts r) = some zs) (hz : zs.length = 4) (hwd : zs[2]? = some WD) (hln : zs[3]? = some LN) (hds : x.ds.length ≤ 24) :
    Calls Tryd.prog 37 #[.pointer (some ⟨NB, 0, none⟩), .string s, .bool false] w fun e w' => e = .returned (.bool (lineL false x (lsts (s0 :: r))).isSome) ∧ (∀ y, lineL false x (lsts (s0 :: r)) = some y → BoxN w' NB lo y) ∧ Below NB w w' := by
  have HL : Hid (lineL false x (lsts (s0 :: r)) = some { x with ds := x.ds ++ [⟨2, zs.take 2, WD, LN⟩] }) := Lib.hid (by
    have hk : ¬ s0.data.toList = wPortL := by
      intro e
      rw [e] at hkl
      exact absurd hkl (by decide)
    unfold lsts lineL
    simp only [List.map_cons, hk, Bool.false_eq_true, if_false, hkl]
    rw [show numsL (r.map fun b : ByteArray => b.data.toList) = some zs from hn]
    dsimp only
    rw [show pinN 2 = 2 from rfl, if_pos hz, hwd, hln]
    rfl)
  have hrl2 : r.length = 4 := by have := (numsL_words hn).1; rw [hz] at this; simpa [lsts] using this.symm
  have HCT : Hid (cntB (numsL (lsts r)) 4 = true) := Lib.hid (by
    rw [hn, show cntB (some zs) 4 = ((zs.length : Int) == 4) from rfl, hz]
    rfl)
  have HN := Lib.hid hn
  have HZ := Lib.hid hz
  have HWD := Lib.hid (And.intro hwd hln)
  have HRL := Lib.hid hrl2
  have hnb := hx.lt
  have HSP := Lib.hid (fun w hG => strings_Split_any s B w hs hG)
  have HW := Lib.hid hW
  have HX := Lib.hid hx
  have HG := Lib.hid hG
  have hsw := wrd_size 32 s
  rw [hW] at hsw
  have HWZ : Hid (∀ y ∈ s0 :: r, y.size ≤ 1048576) := Lib.hid (fun y hy => by have := hsw.1 y hy; omega)
  have hrl : r.length ≤ 1048576 := by have := hsw.2.1; simp at this; omega
  have e0 := nets_word s0
  have ep := port_word s0
  have en := word_n s0
  have eq := word_p s0
  have er := word_r s0
  have hks : s0.data.toList = [114] := by
    obtain ⟨h1, -⟩ := kindL_word hkl
    rw [← h1]; rfl
  have hs0 : s0 = ⟨#[114]⟩ := ba_ext (by rw [hks])
  rw [decide_eq_false (by rw [hks]; decide)] at e0
  rw [decide_eq_false (by rw [hks]; decide)] at ep
  rw [decide_eq_false (by rw [hks]; decide)] at en
  rw [decide_eq_false (by rw [hks]; decide)] at eq
  rw [decide_eq_true hks] at er
  have HIX : Hid (∀ (w : World) (g : Nat), Blk w g #[.string ⟨#[110]⟩, .string ⟨#[112]⟩, .string ⟨#[114]⟩] 9 → Calls Tryd.prog 70 #[.slice (some ⟨g, 0, none⟩) 3 3, .string s0] w fun e w' => e = .returned (.int .i64 2) ∧ w' = w) := Lib.hid (fun w g hB => by
    have h := Tryd.slices_Index_string g 0 3 3 [⟨#[110]⟩, ⟨#[112]⟩, ⟨#[114]⟩] s0 w (by decide) (by decide) (fun j hj => by
      rw [hB.cell]
      match j, hj with
      | 0, _ => rfl
      | 1, _ => rfl
      | 2, _ => rfl
      | j + 3, hj => simp at hj; omega)
    have e : Go.Lib.idxOfS ([⟨#[110]⟩, ⟨#[112]⟩, ⟨#[114]⟩].take 3) s0 = 2 := by rw [hs0]; decide
    rw [e] at h
    exact h)
  have HPC : Hid (∀ w : World, Calls Tryd.prog 71 #[.int .i64 2] w fun e w' => e = .returned (.int .i64 2) ∧ w = w') := Lib.hid (fun w => pinCount_any 2 w)
  have HNU := Lib.hid (fun v ss cnt w h hs hl hB hG => netNumbers_any v ss cnt B w h hs hl hB hG)
  clear hkl hks hs0 hn hz hwd hln hrl2
  clear hx hG hW hsw
  go_enter Tryd.func37, Tryd.ntmps37
  go_wp2_with fail
  refine (HSP.out w HG.out).mono ?_
  rintro e w1 ⟨rfl, hst, hb1⟩
  rw [HW.out] at hst ⊢
  rw [show (s0 :: r).length = r.length + 1 from rfl] at hst ⊢
  have q0 : w1.cell? ⟨w.heap.size, 0, none⟩ = some (.string s0) := str_cell hst 0 s0 rfl
  have lg := lt_of_cell q0
  dsimp only at lg
  have hbN : Below NB w w1 := ⟨hb1.os, hb1.tape, hb1.output, hb1.size, fun k hk => hb1.block k (by omega)⟩
  rw [HRL.out] at hst ⊢
  have HWT : Hid (StrSl w1 (.slice (some ⟨w.heap.size, 1, none⟩) 4 4) r) := Lib.hid hst.tail.2.2
  have HK0 := HRL
  clear hst
  go_wp2_with fail
  refine (HIX.out (w1.alloc (.cells #[.string ⟨#[110]⟩, .string ⟨#[112]⟩, .string ⟨#[114]⟩] 9)) w1.heap.size (Blk.new _ rfl)).mono ?_
  rintro e w2 ⟨rfl, rfl⟩
  have hal : Below w1.heap.size w1 (w1.alloc (.cells #[.string ⟨#[110]⟩, .string ⟨#[112]⟩, .string ⟨#[114]⟩] 9)) := (Below.refl _ w1).alloc (Nat.le_refl _) _
  have HWT2 := Lib.hid (HWT.out.by hal)
  have hb2 : Below w.heap.size w (w1.alloc (.cells #[.string ⟨#[110]⟩, .string ⟨#[112]⟩, .string ⟨#[114]⟩] 9)) := below_on hal hb1
  have q1 := cell_by' hal q0
  have lg1 := lt_of_cell q1
  dsimp only at lg1
  clear hal HWT q0 lg hbN hb1
  generalize w1.alloc (.cells #[.string ⟨#[110]⟩, .string ⟨#[112]⟩, .string ⟨#[114]⟩] 9) = w2 at *
  go_wp2_with fail
  refine (HPC.out w2).mono ?_
  rintro e w3 ⟨rfl, rfl⟩
  go_wp2_with fail
  refine (HNU.out _ r 4 w2 HWT2.out (fun y hy => HWZ.out y (List.mem_cons_of_mem _ hy)) (by have := HK0.out; omega) (by have := hb2.size; omega) (HG.out.by hb2 (by omega))).mono ?_
  rintro e w3 ⟨v2, rfl, hzs, hb3⟩
  have hbM0 : Below w.heap.size w w3 := below_on hb3 hb2
  have hbM : Below NB w w3 := ⟨hbM0.os, hbM0.tape, hbM0.output, hbM0.size, fun k hk => hbM0.block k (by omega)⟩
  have q2 := cell_by' hb3 q1
  clear q1 lg1 HWT2
  rw [HCT.out]
  have hB2 := hzs _ HN.out
  rcases hB2.own with ⟨_, _, _, h0⟩ | ⟨G, c5, cs, rfl, hG1, hG2, hl1, hl2, hBk, hcell⟩
  · have := HZ.out; rw [h0] at this; simp at this
  rw [HZ.out] at hl1 ⊢
  have p1 : w3.cell? ⟨G, 2, none⟩ = some (.int .i64 WD) := (hBk.cell _).trans (hcell _ _ HWD.out.1)
  have p2 : w3.cell? ⟨G, 3, none⟩ = some (.int .i64 LN) := (hBk.cell _).trans (hcell _ _ HWD.out.2)
  have HPI : Hid (OwnR w3 G (G + 1) (.slice (some ⟨G, 0, none⟩) 2 2) (zs.take 2)) := Lib.hid (.inr ⟨G, 2, cs, by rw [List.length_take, HZ.out]; rfl, Nat.le_refl _, Nat.lt_succ_self _, by rw [List.length_take, HZ.out]; decide, by decide, hBk, fun i y hy => hcell i y (by
    have := (List.getElem?_eq_some_iff.1 hy).1
    rw [List.length_take] at this
    rw [List.getElem?_take_of_lt (by omega)] at hy
    exact hy)⟩)
  obtain ⟨mid, dv, pv, L, kN1, hlo, hP1, hO1, hL1, hdn⟩ := HX.out
  have hmid : mid ≤ w.heap.size := hO1.1
  obtain ⟨ll, hll⟩ : ∃ q, L.length = q := ⟨_, rfl⟩
  have hllb : ll ≤ 24 := by rw [← hll, ← List.length_map (f := fun t : Tr => t.1), hL1]; exact hds
  obtain ⟨a3, c3, rfl⟩ := hO1.sized
  obtain ⟨a4, c4, rfl⟩ := hP1.sized
  rw [hll] at hO1 kN1
  have HLL := Lib.hid hll
  have HL1 := Lib.hid hL1
  have HO2 := Lib.hid (hO1.by hb2)
  have HP2 := Lib.hid (hP1.by hb2)
  have kN := Blk.by hbM0 kN1
  have hw2s := hb2.size
  have hw3s := hb3.size
  have hGl := hBk.lt
  have hc53 : (2 : Int) ≤ (c5 : Int) := by omega
  have hc54 : 2 ≤ c5 := by omega
  have hw4 : IntKind.i64.wrap 3 = 3 := rfl
  have lz := lt_of_cell p1
  dsimp only at lz
  clear hb2 kN1 hP1 hO1 hL1 hll hdn hB2 hBk hcell hl1 hzs hbM0
  go_upto_region 24 with fail
  have hS : (fun w' : World => Blk w' NB #[.int .i64 x.nets, .slice a3 ll c3, .slice a4 x.ps.length c4] 31 ∧ w'.cell? ⟨G, 2, none⟩ = some (.int .i64 WD) ∧ w'.cell? ⟨G, 3, none⟩ = some (.int .i64 LN)) { w3 with drawn := w3.drawn + 1 } := ⟨kN.drew, p1, p2⟩
  refine wp_region_any (by kernel_rfl) (wpAny_of_E (S := (fun w' : World => Blk w' NB #[.int .i64 x.nets, .slice a3 ll c3, .slice a4 x.ps.length c4] 31 ∧ w'.cell? ⟨G, 2, none⟩ = some (.int .i64 WD) ∧ w'.cell? ⟨G, 3, none⟩ = some (.int .i64 LN))) (l := 24) _ _ _ _ ?_)
  change wpAnyE _ _ _ _ _ _ _ _ _ w3.drew
  refine wpAnyE_takeL (i := 0) (v := ?_) rfl (by kernel_rfl) (fun _ _ _ h => h) (Or.inl ⟨by rfl, ?_⟩) hS ?_
  rotate_left
  · intro w hSw; (try dsimp only at hSw); have qA := hSw.1.cell; have lA := hSw.1.lt; have qB := hSw.2.1; have lB := lt_of_cell qB; have qC := hSw.2.2; have lC := lt_of_cell qC; (try dsimp only at lB lC); clear hSw; go_simp; (try with_reducible rfl)
  try simp only [Act.put, List.setIfInBounds_toArray, List.set_cons_zero, List.set_cons_succ]
  refine wpAnyE_takeL (i := 1) (v := ?_) rfl (by kernel_rfl) (fun _ _ _ h => h) (Or.inl ⟨by rfl, ?_⟩) hS ?_
  rotate_left
  · intro w hSw; (try dsimp only at hSw); have qA := hSw.1.cell; have lA := hSw.1.lt; have qB := hSw.2.1; have lB := lt_of_cell qB; have qC := hSw.2.2; have lC := lt_of_cell qC; (try dsimp only at lB lC); clear hSw; go_simp; (try with_reducible rfl)
  try simp only [Act.put, List.setIfInBounds_toArray, List.set_cons_zero, List.set_cons_succ]
  refine wpAnyE_takeL (i := 2) (v := ?_) rfl (by kernel_rfl) (fun _ _ _ h => h) (Or.inl ⟨by rfl, ?_⟩) hS ?_
  rotate_left
  · intro w hSw; (try dsimp only at hSw); have qA := hSw.1.cell; have lA := hSw.1.lt; have qB := hSw.2.1; have lB := lt_of_cell qB; have qC := hSw.2.2; have lC := lt_of_cell qC; (try dsimp only at lB lC); clear hSw; go_simp; (try with_reducible rfl)
  try simp only [Act.put, List.setIfInBounds_toArray, List.set_cons_zero, List.set_cons_succ]
  refine wpAnyE_takeL (i := 3) (v := ?_) rfl (by kernel_rfl) (fun _ _ _ h => h) (Or.inl ⟨by rfl, ?_⟩) hS ?_
  rotate_left
  · intro w hSw; (try dsimp only at hSw); have qA := hSw.1.cell; have lA := hSw.1.lt; have qB := hSw.2.1; have lB := lt_of_cell qB; have qC := hSw.2.2; have lC := lt_of_cell qC; (try dsimp only at lB lC); clear hSw; go_simp; (try with_reducible rfl)
  try simp only [Act.put, List.setIfInBounds_toArray, List.set_cons_zero, List.set_cons_succ]
  refine wpAnyE_takeL (i := 4) (v := ?_) rfl (by kernel_rfl) (fun _ _ _ h => h) (Or.inl ⟨by rfl, ?_⟩) hS ?_
  rotate_left
  · intro w hSw; (try dsimp only at hSw); have qA := hSw.1.cell; have lA := hSw.1.lt; have qB := hSw.2.1; have lB := lt_of_cell qB; have qC := hSw.2.2; have lC := lt_of_cell qC; (try dsimp only at lB lC); clear hSw; go_simp; (try with_reducible rfl)
  try simp only [Act.put, List.setIfInBounds_toArray, List.set_cons_zero, List.set_cons_succ]
  refine wpAnyE_takeL (i := 5) (v := ?_) rfl (by kernel_rfl) (fun _ _ _ h => h) (Or.inl ⟨by rfl, ?_⟩) hS ?_
  rotate_left
  · intro w hSw; (try dsimp only at hSw); have qA := hSw.1.cell; have lA := hSw.1.lt; have qB := hSw.2.1; have lB := lt_of_cell qB; have qC := hSw.2.2; have lC := lt_of_cell qC; (try dsimp only at lB lC); clear hSw; go_simp; (try with_reducible rfl)
  try simp only [Act.put, List.setIfInBounds_toArray, List.set_cons_zero, List.set_cons_succ]
  refine wpAnyE_takeL (i := 6) (v := ?_) rfl (by kernel_rfl) (fun _ _ _ h => h) (Or.inl ⟨by rfl, ?_⟩) hS ?_
  rotate_left
  · intro w hSw; (try dsimp only at hSw); have qA := hSw.1.cell; have lA := hSw.1.lt; have qB := hSw.2.1; have lB := lt_of_cell qB; have qC := hSw.2.2; have lC := lt_of_cell qC; (try dsimp only at lB lC); clear hSw; go_simp; (try with_reducible rfl)
  try simp only [Act.put, List.setIfInBounds_toArray, List.set_cons_zero, List.set_cons_succ]
  refine wpAnyE_takeL (i := 7) (v := ?_) rfl (by kernel_rfl) (fun _ _ _ h => h) (Or.inl ⟨by rfl, ?_⟩) hS ?_
  rotate_left
  · intro w hSw; (try dsimp only at hSw); have qA := hSw.1.cell; have lA := hSw.1.lt; have qB := hSw.2.1; have lB := lt_of_cell qB; have qC := hSw.2.2; have lC := lt_of_cell qC; (try dsimp only at lB lC); clear hSw; go_simp; (try with_reducible rfl)
  try simp only [Act.put, List.setIfInBounds_toArray, List.set_cons_zero, List.set_cons_succ]
  refine wpAnyE_takeL (i := 8) (v := ?_) rfl (by kernel_rfl) (fun _ _ _ h => h) (Or.inl ⟨by rfl, ?_⟩) hS ?_
  rotate_left
  · intro w hSw; (try dsimp only at hSw); have qA := hSw.1.cell; have lA := hSw.1.lt; have qB := hSw.2.1; have lB := lt_of_cell qB; have qC := hSw.2.2; have lC := lt_of_cell qC; (try dsimp only at lB lC); clear hSw; go_simp; (try with_reducible rfl)
  try simp only [Act.put, List.setIfInBounds_toArray, List.set_cons_zero, List.set_cons_succ]
  refine wpAnyE_takeL (i := 9) (v := ?_) rfl (by kernel_rfl) (fun _ _ _ h => h) (Or.inl ⟨by rfl, ?_⟩) hS ?_
  rotate_left
  · intro w hSw; (try dsimp only at hSw); have qA := hSw.1.cell; have lA := hSw.1.lt; have qB := hSw.2.1; have lB := lt_of_cell qB; have qC := hSw.2.2; have lC := lt_of_cell qC; (try dsimp only at lB lC); clear hSw; go_simp; (try with_reducible rfl)
  try simp only [Act.put, List.setIfInBounds_toArray, List.set_cons_zero, List.set_cons_succ]
  refine wpAnyE_takeL (i := 10) (v := ?_) rfl (by kernel_rfl) (fun _ _ _ h => h) (Or.inl ⟨by rfl, ?_⟩) hS ?_
  rotate_left
  · intro w hSw; (try dsimp only at hSw); have qA := hSw.1.cell; have lA := hSw.1.lt; have qB := hSw.2.1; have lB := lt_of_cell qB; have qC := hSw.2.2; have lC := lt_of_cell qC; (try dsimp only at lB lC); clear hSw; go_simp; (try with_reducible rfl)
  try simp only [Act.put, List.setIfInBounds_toArray, List.set_cons_zero, List.set_cons_succ]
  refine wpAnyE_takeL (i := 11) (v := ?_) rfl (by kernel_rfl) (fun _ _ _ h => h) (Or.inl ⟨by rfl, ?_⟩) hS ?_
  rotate_left
  · intro w hSw; (try dsimp only at hSw); have qA := hSw.1.cell; have lA := hSw.1.lt; have qB := hSw.2.1; have lB := lt_of_cell qB; have qC := hSw.2.2; have lC := lt_of_cell qC; (try dsimp only at lB lC); clear hSw; go_simp; (try with_reducible rfl)
  try simp only [Act.put, List.setIfInBounds_toArray, List.set_cons_zero, List.set_cons_succ]
  refine wpAnyE_takeL (i := 12) (v := ?_) rfl (by kernel_rfl) (fun _ _ _ h => h) (Or.inl ⟨by rfl, ?_⟩) hS ?_
  rotate_left
  · intro w hSw; (try dsimp only at hSw); have qA := hSw.1.cell; have lA := hSw.1.lt; have qB := hSw.2.1; have lB := lt_of_cell qB; have qC := hSw.2.2; have lC := lt_of_cell qC; (try dsimp only at lB lC); clear hSw; go_simp; (try with_reducible rfl)
  try simp only [Act.put, List.setIfInBounds_toArray, List.set_cons_zero, List.set_cons_succ]
  refine wpAnyE_takeL (i := 13) (v := ?_) rfl (by kernel_rfl) (fun _ _ _ h => h) (Or.inl ⟨by rfl, ?_⟩) hS ?_
  rotate_left
  · intro w hSw; (try dsimp only at hSw); have qA := hSw.1.cell; have lA := hSw.1.lt; have qB := hSw.2.1; have lB := lt_of_cell qB; have qC := hSw.2.2; have lC := lt_of_cell qC; (try dsimp only at lB lC); clear hSw; go_simp; (try with_reducible rfl)
  try simp only [Act.put, List.setIfInBounds_toArray, List.set_cons_zero, List.set_cons_succ]
  refine wpAnyE_takeL (i := 14) (v := ?_) rfl (by kernel_rfl) (fun _ _ _ h => h) (Or.inl ⟨by rfl, ?_⟩) hS ?_
  rotate_left
  · intro w hSw; (try dsimp only at hSw); have qA := hSw.1.cell; have lA := hSw.1.lt; have qB := hSw.2.1; have lB := lt_of_cell qB; have qC := hSw.2.2; have lC := lt_of_cell qC; (try dsimp only at lB lC); clear hSw; go_simp; (try with_reducible rfl)
  try simp only [Act.put, List.setIfInBounds_toArray, List.set_cons_zero, List.set_cons_succ]
  refine wpAnyE_takeL (i := 15) (v := ?_) rfl (by kernel_rfl) (fun _ _ _ h => h) (Or.inl ⟨by rfl, ?_⟩) hS ?_
  rotate_left
  · intro w hSw; (try dsimp only at hSw); have qA := hSw.1.cell; have lA := hSw.1.lt; have qB := hSw.2.1; have lB := lt_of_cell qB; have qC := hSw.2.2; have lC := lt_of_cell qC; (try dsimp only at lB lC); clear hSw; go_simp; (try with_reducible rfl)
  try simp only [Act.put, List.setIfInBounds_toArray, List.set_cons_zero, List.set_cons_succ]
  refine wpAnyE_takeL (i := 16) (v := ?_) rfl (by kernel_rfl) (fun _ _ _ h => h) (Or.inl ⟨by rfl, ?_⟩) hS ?_
  rotate_left
  · intro w hSw; (try dsimp only at hSw); have qA := hSw.1.cell; have lA := hSw.1.lt; have qB := hSw.2.1; have lB := lt_of_cell qB; have qC := hSw.2.2; have lC := lt_of_cell qC; (try dsimp only at lB lC); clear hSw; go_simp; (try with_reducible rfl)
  try simp only [Act.put, List.setIfInBounds_toArray, List.set_cons_zero, List.set_cons_succ]
  refine wpAnyE_takeL (i := 17) (v := ?_) rfl (by kernel_rfl) (fun _ _ _ h => h) (Or.inl ⟨by rfl, ?_⟩) hS ?_
  rotate_left
  · intro w hSw; (try dsimp only at hSw); have qA := hSw.1.cell; have lA := hSw.1.lt; have qB := hSw.2.1; have lB := lt_of_cell qB; have qC := hSw.2.2; have lC := lt_of_cell qC; (try dsimp only at lB lC); clear hSw; go_simp; (try with_reducible rfl)
  try simp only [Act.put, List.setIfInBounds_toArray, List.set_cons_zero, List.set_cons_succ]
  refine wpAnyE_takeL (i := 18) (v := ?_) rfl (by kernel_rfl) (fun _ _ _ h => h) (Or.inl ⟨by rfl, ?_⟩) hS ?_
  rotate_left
  · intro w hSw; (try dsimp only at hSw); have qA := hSw.1.cell; have lA := hSw.1.lt; have qB := hSw.2.1; have lB := lt_of_cell qB; have qC := hSw.2.2; have lC := lt_of_cell qC; (try dsimp only at lB lC); clear hSw; go_simp; (try with_reducible rfl)
  try simp only [Act.put, List.setIfInBounds_toArray, List.set_cons_zero, List.set_cons_succ]
  refine wpAnyE_takeL (i := 19) (v := ?_) rfl (by kernel_rfl) (fun _ _ _ h => h) (Or.inl ⟨by rfl, ?_⟩) hS ?_
  rotate_left
  · intro w hSw; (try dsimp only at hSw); have qA := hSw.1.cell; have lA := hSw.1.lt; have qB := hSw.2.1; have lB := lt_of_cell qB; have qC := hSw.2.2; have lC := lt_of_cell qC; (try dsimp only at lB lC); clear hSw; go_simp; (try with_reducible rfl)
  try simp only [Act.put, List.setIfInBounds_toArray, List.set_cons_zero, List.set_cons_succ]
  obtain ⟨y0, hy0⟩ : ∃ q, q = w3.drew := ⟨_, rfl⟩
  have hbc : Below w3.heap.size w3 y0 := by rw [hy0]; exact (Below.refl _ w3).drew
  have kNc := Blk.by hbc kN
  have p1c := cell_by' hbc p1
  have p2c := cell_by' hbc p2
  rw [← hy0]
  clear hy0
  refine wpAnyE_oneL (k := 20) (by kernel_rfl) rfl (fun K hK => ?_)
  go_simp
  have hal : Below y0.heap.size y0 (y0.alloc (.cells #[.int .i64 2, .slice (some ⟨G, 0, none⟩) 2 2, .int .i64 WD, .int .i64 LN] 52)) := (Below.refl _ y0).alloc (Nat.le_refl _) _
  have hsz0 := hbc.size
  replace kNc := Blk.by hal kNc
  replace p1c := cell_by' hal p1c
  replace p2c := cell_by' hal p2c
  replace hbc := below_on hal hbc
  have kD : Blk (y0.alloc (.cells #[.int .i64 2, .slice (some ⟨G, 0, none⟩) 2 2, .int .i64 WD, .int .i64 LN] 52)) y0.heap.size #[.int .i64 2, .slice (some ⟨G, 0, none⟩) 2 2, .int .i64 WD, .int .i64 LN] 52 := Blk.new _ rfl
  refine hK.out _ _ (fun _ => ⟨kNc, p1c, p2c⟩) ?_
  try simp only [Act.put, List.setIfInBounds_toArray, List.set_cons_zero, List.set_cons_succ]
  clear hal hK
  generalize y0.alloc (.cells #[.int .i64 2, .slice (some ⟨G, 0, none⟩) 2 2, .int .i64 WD, .int .i64 LN] 52) = y1 at *
  generalize y0.heap.size = DB at *
  refine wpAnyE_oneL (k := 21) (by kernel_rfl) rfl (fun K hK => ?_)
  have hbA : Below w2.heap.size w2 y1 := below_on hbc hb3
  have hOy := HO2.out.by hbA
  refine step_appT (by rfl) _ _ (by rfl) mid (.slice a3 ll c3) ll (tcells L) (by rfl) (by have := hOy.2.1; rwa [HLL.out] at this) ⟨DB, 0, none⟩ 1 1 [.int .i64 2, (.slice (some ⟨G, 0, none⟩) 2 2), .int .i64 WD, .int .i64 LN] (by rfl) rfl (World.news_of_block (cs := #[.int .i64 2, .slice (some ⟨G, 0, none⟩) 2 2, .int .i64 WD, .int .i64 LN]) kD) (fun u hu => by
    simp at hu
    rcases hu with rfl | rfl | rfl | rfl <;> rfl) (by decide) (by omega) hOy.1 ?_
  intro g cb y2 hrow hgr hg
  have hown := HO2.out.2.1.lt
  have hNy := kNc.lt
  have kN3 : Blk y2 NB #[.int .i64 x.nets, .slice a3 ll c3, .slice a4 x.ps.length c4] 31 := (hgr.block _ kNc.lt (fun e => by have := hown _ e.symm; omega)).trans kNc
  have hGy : G < y1.heap.size := by have := hbc.size; omega
  have p1d : y2.cell? ⟨G, 2, none⟩ = some (.int .i64 WD) := hgr.cell p1c (fun e => by have := hown _ e.symm; dsimp only at this; omega)
  have p2d : y2.cell? ⟨G, 3, none⟩ = some (.int .i64 LN) := hgr.cell p2c (fun e => by have := hown _ e.symm; dsimp only at this; omega)
  have hP1 := HP2.out.by hbA
  have hP3 : BldP y2 lo mid (.slice a4 x.ps.length c4) x.ps := ⟨Nat.le_trans hP1.1 hgr.size, row_same hP1.2.1 (fun q hq => hgr.block q (hP1.2.1.lt q hq).2 (fun e => by have := hP1.2.2 q hq; have := hown _ e.symm; omega)), hP1.2.2⟩
  have hPI : OwnR y1 G (G + 1) (.slice (some ⟨G, 0, none⟩) 2 2) (zs.take 2) := HPI.out.keep (hbc.block _ hGl)
  have hO3 := Out.push (f := G) (pv := (.slice (some ⟨G, 0, none⟩) 2 2)) (x := ⟨2, zs.take 2, WD, LN⟩) HO2.out hbA HLL.out hPI hG1 hGy hgr hg hrow
  have hb4 : Below NB w3 y2 := (below_less hbc (by omega)).trans ⟨hgr.os, hgr.tape, hgr.output, hgr.size, fun k hk => hgr.block k (by omega) (fun e => by have := hown _ e.symm; omega)⟩
  refine hK.out _ _ (fun _ => ⟨kN3, p1d, p2d⟩) ?_
  try simp only [Act.put, List.setIfInBounds_toArray, List.set_cons_zero, List.set_cons_succ]
  clear hK
  have hS2 : (fun w' : World => Blk w' NB #[.int .i64 x.nets, .slice a3 ll c3, .slice a4 x.ps.length c4] 31 ∧ w'.cell? ⟨G, 2, none⟩ = some (.int .i64 WD) ∧ w'.cell? ⟨G, 3, none⟩ = some (.int .i64 LN)) y2 := ⟨kN3, p1d, p2d⟩
  refine wpAnyE_takeL (i := 22) (v := ?_) rfl (by kernel_rfl) (fun _ _ _ h => h) (Or.inl ⟨by rfl, ?_⟩) hS2 ?_
  rotate_left
  · intro w hSw; (try dsimp only at hSw); have qA := hSw.1.cell; have lA := hSw.1.lt; have qB := hSw.2.1; have lB := lt_of_cell qB; have qC := hSw.2.2; have lC := lt_of_cell qC; (try dsimp only at lB lC); clear hSw; go_simp; (try with_reducible rfl)
  try simp only [Act.put, List.setIfInBounds_toArray, List.set_cons_zero, List.set_cons_succ]
  refine wpAnyE_takeL (i := 23) (v := ?_) rfl (by kernel_rfl) (fun _ _ _ h => h) (Or.inl ⟨by rfl, ?_⟩) hS2 ?_
  rotate_left
  · intro w hSw; (try dsimp only at hSw); have qA := hSw.1.cell; have lA := hSw.1.lt; have qB := hSw.2.1; have lB := lt_of_cell qB; have qC := hSw.2.2; have lC := lt_of_cell qC; (try dsimp only at lB lC); clear hSw; go_simp; (try with_reducible rfl)
  try simp only [Act.put, List.setIfInBounds_toArray, List.set_cons_zero, List.set_cons_succ]
  refine wpAnyE_oneL (k := 24) (by kernel_rfl) rfl (fun K hK => ?_)
  have cN := kN3.cell
  have fN := kN3.free
  have lN := kN3.lt
  go_simp
  refine hK.out _ _ (fun h => absurd rfl h) ?_
  refine wpAnyE_done (by kernel_rfl) ?_ _
  clear hS hS2 hK p1c p2c p1 p2 p1d p2d kN kNc kD
  have hbf : Below NB w (y2.setCell ⟨NB, 1, none⟩ (.slice (some ⟨g, 0, none⟩) (ll + 1) cb)) := (hbM.trans hb4).setCell (Nat.le_refl _) _
  have HBX := Lib.hid (BoxN.dev (d := ⟨2, zs.take 2, WD, LN⟩) kN3 hlo hP3 hO3 (by rw [List.map_append, HL1.out]; rfl))
  clear cN fN lN kN3 hb4 hP3 hO3 hP1 hPI hown hgr hg hrow hOy
  generalize y2.setCell ⟨NB, 1, none⟩ (.slice (some ⟨g, 0, none⟩) (ll + 1) cb) = y3 at *
  go_wp2
  refine bodyPost_ret (v := .bool true) (by simp [results, Tryd.results37, go_sem, *]) rfl ⟨by rw [HL.out]; rfl, fun y hy => ?_, hbf⟩
  rw [HL.out] at hy
  obtain rfl := (Option.some.inj hy).symm
  exact HBX.out
end Go.Proofs.YtglddnkpccgchaaDoor
