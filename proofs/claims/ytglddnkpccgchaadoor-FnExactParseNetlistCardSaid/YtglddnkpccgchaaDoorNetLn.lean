/- The program's netLine, at the ways without a drawn region. -/
import Derived.Test.YtglddnkpccgchaaDoorBoxN
import Derived.Test.YtglddnkpccgchaaDoorNetNum
import Derived.Test.YtglddnkpccgchaaDoorSpecLn
namespace Go.Proofs.YtglddnkpccgchaaDoor
open Go.RowKit
set_option linter.unusedVariables false
set_option linter.unusedSimpArgs false

set_option maxRecDepth 100000 in
set_option maxHeartbeats 2000000 in
theorem netl_a (x : Nl) (s s0 : ByteArray) (r : List ByteArray) (NB B lo : Nat) (w : World) (hW : wrdS 32 s = s0 :: r) (hs : s.size ≤ 1048576) (hx : BoxN w NB lo x) (hG : Glob B w) (hB : B ≤ NB) (hk : ¬ s0.data.toList = wNetsL) :
    Calls Tryd.prog 37 #[.pointer (some ⟨NB, 0, none⟩), .string s, .bool true] w fun e w' => e = .returned (.bool (lineL true x (lsts (s0 :: r))).isSome) ∧ (∀ y, lineL true x (lsts (s0 :: r)) = some y → BoxN w' NB lo y) ∧ Below NB w w' := by
  have HL : Hid (lineL true x (lsts (s0 :: r)) = none) := Lib.hid (by
    unfold lsts lineL
    simp only [List.map_cons, hk, if_false, if_true])
  have hnb := hx.lt
  have HSP := Lib.hid (fun w hG => strings_Split_any s B w hs hG)
  have HW := Lib.hid hW
  have HX := Lib.hid hx
  have HG := Lib.hid hG
  have hsw := wrd_size 32 s
  rw [hW] at hsw
  have HWZ : Hid (∀ y ∈ s0 :: r, y.size ≤ 1048576) := Lib.hid (fun y hy => by have := hsw.1 y hy; omega)
  have hrl : r.length ≤ 1048576 := by have := hsw.2.1; simp at this; omega
  have e0 := nets_word s0
  rw [decide_eq_false hk] at e0
  have e1 : (0 : Int) < ((r.length + 1 : Nat) : Int) := by omega
  clear hk
  clear hx hG hW hsw
  go_enter Tryd.func37, Tryd.ntmps37
  go_wp2_with fail
  refine (HSP.out w HG.out).mono ?_
  rintro e w1 ⟨rfl, hst, hb1⟩
  rw [HW.out] at hst ⊢
  rw [show (s0 :: r).length = r.length + 1 from rfl] at hst ⊢
  have q0 : w1.cell? ⟨w.heap.size, 0, none⟩ = some (.string s0) := str_cell hst 0 s0 rfl
  have lg := lt_of_cell q0
  dsimp only at lg
  have hbN : Below NB w w1 := ⟨hb1.os, hb1.tape, hb1.output, hb1.size, fun k hk => hb1.block k (by omega)⟩
  clear hst
  go_wp2
  refine bodyPost_ret (v := .bool false) (by simp [results, Tryd.results37, go_sem, *]) rfl ⟨by rw [HL.out]; rfl, fun y hy => (by rw [HL.out] at hy; cases hy), hbN⟩

set_option maxRecDepth 100000 in
set_option maxHeartbeats 2000000 in
theorem netl_b (x : Nl) (s s0 : ByteArray) (r : List ByteArray) (NB B lo : Nat) (w : World) (hW : wrdS 32 s = s0 :: r) (hs : s.size ≤ 1048576) (hx : BoxN w NB lo x) (hG : Glob B w) (hB : B ≤ NB) (hk : s0.data.toList = wNetsL) :
    Calls Tryd.prog 37 #[.pointer (some ⟨NB, 0, none⟩), .string s, .bool false] w fun e w' => e = .returned (.bool (lineL false x (lsts (s0 :: r))).isSome) ∧ (∀ y, lineL false x (lsts (s0 :: r)) = some y → BoxN w' NB lo y) ∧ Below NB w w' := by
  have HL : Hid (lineL false x (lsts (s0 :: r)) = none) := Lib.hid (by
    unfold lsts lineL
    simp only [List.map_cons, hk, Bool.false_eq_true, if_false]
    rw [if_neg (by decide)]
    rfl)
  have hnb := hx.lt
  have HSP := Lib.hid (fun w hG => strings_Split_any s B w hs hG)
  have HW := Lib.hid hW
  have HX := Lib.hid hx
  have HG := Lib.hid hG
  have hsw := wrd_size 32 s
  rw [hW] at hsw
  have HWZ : Hid (∀ y ∈ s0 :: r, y.size ≤ 1048576) := Lib.hid (fun y hy => by have := hsw.1 y hy; omega)
  have hrl : r.length ≤ 1048576 := by have := hsw.2.1; simp at this; omega
  have e0 := nets_word s0
  rw [decide_eq_true hk] at e0
  have e1 : (0 : Int) < ((r.length + 1 : Nat) : Int) := by omega
  clear hk
  clear hx hG hW hsw
  go_enter Tryd.func37, Tryd.ntmps37
  go_wp2_with fail
  refine (HSP.out w HG.out).mono ?_
  rintro e w1 ⟨rfl, hst, hb1⟩
  rw [HW.out] at hst ⊢
  rw [show (s0 :: r).length = r.length + 1 from rfl] at hst ⊢
  have q0 : w1.cell? ⟨w.heap.size, 0, none⟩ = some (.string s0) := str_cell hst 0 s0 rfl
  have lg := lt_of_cell q0
  dsimp only at lg
  have hbN : Below NB w w1 := ⟨hb1.os, hb1.tape, hb1.output, hb1.size, fun k hk => hb1.block k (by omega)⟩
  clear hst
  go_wp2
  refine bodyPost_ret (v := .bool false) (by simp [results, Tryd.results37, go_sem, *]) rfl ⟨by rw [HL.out]; rfl, fun y hy => (by rw [HL.out] at hy; cases hy), hbN⟩

set_option maxRecDepth 100000 in
set_option maxHeartbeats 2000000 in
theorem netl_n (x : Nl) (s s0 : ByteArray) (r : List ByteArray) (NB B lo : Nat) (w : World) (hW : wrdS 32 s = s0 :: r) (hs : s.size ≤ 1048576) (hx : BoxN w NB lo x) (hG : Glob B w) (hB : B ≤ NB) (hk : s0.data.toList = wNetsL) :
    Calls Tryd.prog 37 #[.pointer (some ⟨NB, 0, none⟩), .string s, .bool true] w fun e w' => e = .returned (.bool (lineL true x (lsts (s0 :: r))).isSome) ∧ (∀ y, lineL true x (lsts (s0 :: r)) = some y → BoxN w' NB lo y) ∧ Below NB w w' := by
  have HL : Hid (lineL true x (lsts (s0 :: r)) = (match numsL (lsts r) with | some [z] => some { x with nets := z } | _ => none)) := Lib.hid ((show lineL true x (lsts (s0 :: r)) = if s0.data.toList = wNetsL then (match numsL (lsts r) with | some [z] => some { x with nets := z } | _ => none) else none from rfl).trans (if_pos hk))
  have hnb := hx.lt
  have HSP := Lib.hid (fun w hG => strings_Split_any s B w hs hG)
  have HW := Lib.hid hW
  have HX := Lib.hid hx
  have HG := Lib.hid hG
  have hsw := wrd_size 32 s
  rw [hW] at hsw
  have HWZ : Hid (∀ y ∈ s0 :: r, y.size ≤ 1048576) := Lib.hid (fun y hy => by have := hsw.1 y hy; omega)
  have hrl : r.length ≤ 1048576 := by have := hsw.2.1; simp at this; omega
  have e0 := nets_word s0
  rw [decide_eq_true hk] at e0
  have HNU := Lib.hid (fun v ss cnt w h hs hl hB hG => netNumbers_any v ss cnt B w h hs hl hB hG)
  clear hk
  clear hx hG hW hsw
  go_enter Tryd.func37, Tryd.ntmps37
  go_wp2_with fail
  refine (HSP.out w HG.out).mono ?_
  rintro e w1 ⟨rfl, hst, hb1⟩
  rw [HW.out] at hst ⊢
  rw [show (s0 :: r).length = r.length + 1 from rfl] at hst ⊢
  have q0 : w1.cell? ⟨w.heap.size, 0, none⟩ = some (.string s0) := str_cell hst 0 s0 rfl
  have lg := lt_of_cell q0
  dsimp only at lg
  have hbN : Below NB w w1 := ⟨hb1.os, hb1.tape, hb1.output, hb1.size, fun k hk => hb1.block k (by omega)⟩
  obtain ⟨k, hk0⟩ : ∃ k, r.length = k := ⟨_, rfl⟩
  obtain ⟨-, hc1, hwt⟩ := hst.tail
  rw [hk0] at hwt hrl ⊢
  rw [show k + 1 - 1 = k by omega] at hwt
  have hcase : (k = 0 ∧ StrSl w1 (.slice (some ⟨w.heap.size, 0, none⟩) 0 0) r) ∨ (¬ k = 0 ∧ StrSl w1 (.slice (some ⟨w.heap.size, 1, none⟩) k k) r) := by
    by_cases h : k = 0
    · exact .inl ⟨h, .inl ⟨some ⟨w.heap.size, 0, none⟩, 0, rfl, List.eq_nil_of_length_eq_zero (by omega)⟩⟩
    · exact .inr ⟨h, hwt⟩
  have HK0 := Lib.hid hk0
  have e8 : (0 : Int) < ((k + 1 : Nat) : Int) := by omega
  clear hwt hst hk0
  rcases hcase with ⟨hcz, hwt⟩ | ⟨hcz, hwt⟩
  all_goals
    have HWT := Lib.hid hwt
    clear hwt
    go_wp2_with fail
    refine (HNU.out _ r 1 w1 HWT.out (fun y hy => HWZ.out y (List.mem_cons_of_mem _ hy)) (by have := HK0.out; omega) (by omega) (HG.out.by hb1 (by omega))).mono ?_
    rintro e w2 ⟨v2, rfl, hzs, hb2⟩
    have hbM : Below NB w w2 := hbN.trans ⟨hb2.os, hb2.tape, hb2.output, hb2.size, fun k hk => hb2.block k (by omega)⟩
    have HX2 := Lib.hid ((HX.out.by hb1).by hb2)
    have hNBl : NB < w2.heap.size := by have := HX2.out.lt; omega
    clear hb1 q0 lg HWT
    match hn : numsL (lsts r) with
    | none =>
      rw [hn] at HL
      simp only [cntB]
      clear hn hzs hb2
      go_wp2
      refine bodyPost_ret (v := .bool false) (by simp [results, Tryd.results37, go_sem, *]) rfl ⟨by rw [HL.out]; rfl, fun y hy => (by rw [HL.out] at hy; cases hy), hbM⟩
    | some zs =>
      rw [hn] at HL
      have hB2 := hzs zs hn
      by_cases hz : zs.length = 1
      · obtain ⟨z, rfl⟩ : ∃ z, zs = [z] := by
          match zs, hz with
          | [z], _ => exact ⟨z, rfl⟩
        rcases hB2.own with ⟨_, _, _, h0⟩ | ⟨G, c5, cs, rfl, hG1, hG2, hl1, hl2, hBk, hcell⟩
        · simp at h0
        have qz : w2.cell? ⟨G, 0, none⟩ = some (.int .i64 z) := (hBk.cell 0).trans (hcell 0 z rfl)
        have lz := lt_of_cell qz
        dsimp only at lz
        obtain ⟨a1, c1, a2, c2, kN, -⟩ := HX2.out.own
        have cN := kN.cell
        have fN := kN.free
        have lN := kN.lt
        have hct : cntB (some [z]) 1 = true := rfl
        rw [hct]
        clear hct hn hzs hB2 hBk hcell hG1 hG2 hl1 hb2 hz
        go_wp2
        refine bodyPost_ret (v := .bool true) (by simp [results, Tryd.results37, go_sem, *]) rfl ⟨by rw [HL.out]; rfl, fun y hy => ?_, hbM.setCell (Nat.le_refl _) _⟩
        rw [HL.out] at hy
        obtain rfl := (Option.some.inj hy).symm
        exact HX2.out.nets z
      · have HL2 := HL.out
        have HL : Hid (lineL true x (lsts (s0 :: r)) = none) := Lib.hid (by
          rw [HL2]
          match zs, hz with
          | [], _ => rfl
          | [_], h => exact absurd rfl h
          | _ :: _ :: _, _ => rfl)
        have hct : cntB (some zs) 1 = false := by
          unfold cntB
          simp
          omega
        rw [hct]
        clear hct HL2 hn hzs hB2 hb2 hz
        go_wp2
        refine bodyPost_ret (v := .bool false) (by simp [results, Tryd.results37, go_sem, *]) rfl ⟨by rw [HL.out]; rfl, fun y hy => (by rw [HL.out] at hy; cases hy), hbM⟩

set_option maxRecDepth 100000 in
set_option maxHeartbeats 2000000 in
theorem netl_p1 (x : Nl) (s s0 : ByteArray) (r : List ByteArray) (NB B lo : Nat) (w : World) (hW : wrdS 32 s = s0 :: r) (hs : s.size ≤ 1048576) (hx : BoxN w NB lo x) (hG : Glob B w) (hB : B ≤ NB) (hk : s0.data.toList = wPortL) (hr : r.length ≠ 2) :
    Calls Tryd.prog 37 #[.pointer (some ⟨NB, 0, none⟩), .string s, .bool false] w fun e w' => e = .returned (.bool (lineL false x (lsts (s0 :: r))).isSome) ∧ (∀ y, lineL false x (lsts (s0 :: r)) = some y → BoxN w' NB lo y) ∧ Below NB w w' := by
  have HL : Hid (lineL false x (lsts (s0 :: r)) = none) := Lib.hid (by
    unfold lsts lineL
    simp only [List.map_cons, hk, Bool.false_eq_true, if_false, if_true]
    match r, hr with
    | [], _ => rfl
    | [_], _ => rfl
    | [_, _], h => exact absurd rfl h
    | _ :: _ :: _ :: _, _ => rfl)
  have hnb := hx.lt
  have HSP := Lib.hid (fun w hG => strings_Split_any s B w hs hG)
  have HW := Lib.hid hW
  have HX := Lib.hid hx
  have HG := Lib.hid hG
  have hsw := wrd_size 32 s
  rw [hW] at hsw
  have HWZ : Hid (∀ y ∈ s0 :: r, y.size ≤ 1048576) := Lib.hid (fun y hy => by have := hsw.1 y hy; omega)
  have hrl : r.length ≤ 1048576 := by have := hsw.2.1; simp at this; omega
  have e0 := nets_word s0
  have ep := port_word s0
  rw [hk, decide_eq_false (by decide)] at e0
  rw [hk, decide_eq_true rfl] at ep
  obtain ⟨n, hn⟩ : ∃ n, r.length + 1 = n := ⟨_, rfl⟩
  have e1 : ((n : Int) != 3) = true := by simp; omega
  have e2 : (0 : Int) < (n : Int) := by omega
  have e3 : 0 < n := by omega
  have HN := Lib.hid hn
  clear hk hr hn
  clear hx hG hW hsw
  go_enter Tryd.func37, Tryd.ntmps37
  go_wp2_with fail
  refine (HSP.out w HG.out).mono ?_
  rintro e w1 ⟨rfl, hst, hb1⟩
  rw [HW.out] at hst ⊢
  rw [show (s0 :: r).length = r.length + 1 from rfl] at hst ⊢
  have q0 : w1.cell? ⟨w.heap.size, 0, none⟩ = some (.string s0) := str_cell hst 0 s0 rfl
  have lg := lt_of_cell q0
  dsimp only at lg
  have hbN : Below NB w w1 := ⟨hb1.os, hb1.tape, hb1.output, hb1.size, fun k hk => hb1.block k (by omega)⟩
  rw [HN.out]
  clear hst
  go_wp2
  refine bodyPost_ret (v := .bool false) (by simp [results, Tryd.results37, go_sem, *]) rfl ⟨by rw [HL.out]; rfl, fun y hy => (by rw [HL.out] at hy; cases hy), hbN⟩

set_option maxRecDepth 100000 in
set_option maxHeartbeats 2000000 in
theorem netl_p2 (x : Nl) (s s0 : ByteArray) (r : List ByteArray) (NB B lo : Nat) (w : World) (hW : wrdS 32 s = s0 :: r) (hs : s.size ≤ 1048576) (hx : BoxN w NB lo x) (hG : Glob B w) (hB : B ≤ NB) (nm a : ByteArray) (hk : s0.data.toList = wPortL) (hr : r = [nm, a]) (hb : nameB nm = false) :
    Calls Tryd.prog 37 #[.pointer (some ⟨NB, 0, none⟩), .string s, .bool false] w fun e w' => e = .returned (.bool (lineL false x (lsts (s0 :: r))).isSome) ∧ (∀ y, lineL false x (lsts (s0 :: r)) = some y → BoxN w' NB lo y) ∧ Below NB w w' := by
  have hmk : (⟨nm.data.toList.toArray⟩ : ByteArray) = nm := ba_ext rfl
  have HL : Hid (lineL false x (lsts (s0 :: r)) = none) := Lib.hid (by
    subst hr
    unfold lsts lineL
    simp only [List.map_cons, List.map_nil, hk, Bool.false_eq_true, if_false, if_true, hmk]
    rw [if_neg]
    rintro ⟨h1, h2⟩
    rw [h1] at hb; cases hb)
  have hnb := hx.lt
  have HSP := Lib.hid (fun w hG => strings_Split_any s B w hs hG)
  have HW := Lib.hid hW
  have HX := Lib.hid hx
  have HG := Lib.hid hG
  have hsw := wrd_size 32 s
  rw [hW] at hsw
  have HWZ : Hid (∀ y ∈ s0 :: r, y.size ≤ 1048576) := Lib.hid (fun y hy => by have := hsw.1 y hy; omega)
  have hrl : r.length ≤ 1048576 := by have := hsw.2.1; simp at this; omega
  subst hr
  have HI := Lib.hid (fun w => implIsName_any nm w (by have := HWZ.out nm (by simp); omega))
  obtain ⟨a1, c1, a2, c2, kN0, -⟩ := HX.out.own
  have e0 := nets_word s0
  have ep := port_word s0
  rw [hk, decide_eq_false (by decide)] at e0
  rw [hk, decide_eq_true rfl] at ep
  rw [hb] at HI
  clear hk hb hmk
  clear hx hG hW hsw
  go_enter Tryd.func37, Tryd.ntmps37
  go_wp2_with fail
  refine (HSP.out w HG.out).mono ?_
  rintro e w1 ⟨rfl, hst, hb1⟩
  rw [HW.out] at hst ⊢
  rw [show (s0 :: [nm, a]).length = 3 from rfl] at hst ⊢
  have q0 : w1.cell? ⟨w.heap.size, 0, none⟩ = some (.string s0) := str_cell hst 0 s0 rfl
  have lg := lt_of_cell q0
  dsimp only at lg
  have hbN : Below NB w w1 := ⟨hb1.os, hb1.tape, hb1.output, hb1.size, fun k hk => hb1.block k (by omega)⟩
  have q1 : w1.cell? ⟨w.heap.size, 1, none⟩ = some (.string nm) := str_cell hst 1 nm rfl
  have kN := Blk.by hb1 kN0
  have cN := kN.cell
  have lN := kN.lt
  clear hst kN0
  go_wp2_with (go_at_call 48; refine (HI.out _).mono ?_; rintro e w2 ⟨rfl, rfl⟩)
  refine bodyPost_ret (v := .bool false) (by simp [results, Tryd.results37, go_sem, *]) rfl ⟨by rw [HL.out]; rfl, fun y hy => (by rw [HL.out] at hy; cases hy), hbN⟩

set_option maxRecDepth 100000 in
set_option maxHeartbeats 2000000 in
theorem netl_p3 (x : Nl) (s s0 : ByteArray) (r : List ByteArray) (NB B lo : Nat) (w : World) (hW : wrdS 32 s = s0 :: r) (hs : s.size ≤ 1048576) (hx : BoxN w NB lo x) (hG : Glob B w) (hB : B ≤ NB) (nm a : ByteArray) (hk : s0.data.toList = wPortL) (hr : r = [nm, a]) (hn : nameB nm = true) (hb : x.ds ≠ []) :
    Calls Tryd.prog 37 #[.pointer (some ⟨NB, 0, none⟩), .string s, .bool false] w fun e w' => e = .returned (.bool (lineL false x (lsts (s0 :: r))).isSome) ∧ (∀ y, lineL false x (lsts (s0 :: r)) = some y → BoxN w' NB lo y) ∧ Below NB w w' := by
  have hmk : (⟨nm.data.toList.toArray⟩ : ByteArray) = nm := ba_ext rfl
  have HL : Hid (lineL false x (lsts (s0 :: r)) = none) := Lib.hid (by
    subst hr
    unfold lsts lineL
    simp only [List.map_cons, List.map_nil, hk, Bool.false_eq_true, if_false, if_true, hmk]
    rw [if_neg]
    rintro ⟨h1, h2⟩
    exact hb h2)
  have hnb := hx.lt
  have HSP := Lib.hid (fun w hG => strings_Split_any s B w hs hG)
  have HW := Lib.hid hW
  have HX := Lib.hid hx
  have HG := Lib.hid hG
  have hsw := wrd_size 32 s
  rw [hW] at hsw
  have HWZ : Hid (∀ y ∈ s0 :: r, y.size ≤ 1048576) := Lib.hid (fun y hy => by have := hsw.1 y hy; omega)
  have hrl : r.length ≤ 1048576 := by have := hsw.2.1; simp at this; omega
  subst hr
  have HI := Lib.hid (fun w => implIsName_any nm w (by have := HWZ.out nm (by simp); omega))
  obtain ⟨a1, c1, a2, c2, kN0, -⟩ := HX.out.own
  have e0 := nets_word s0
  have ep := port_word s0
  rw [hk, decide_eq_false (by decide)] at e0
  rw [hk, decide_eq_true rfl] at ep
  rw [hn] at HI
  have hds : x.ds.length ≠ 0 := fun e => hb (List.eq_nil_of_length_eq_zero e)
  have e5 : decide ((0 : Int) < (x.ds.length : Int)) = true := decide_eq_true (by omega)
  have e6 : decide (0 < x.ds.length) = true := decide_eq_true (by omega)
  clear hk hb hmk hn hds
  clear hx hG hW hsw
  go_enter Tryd.func37, Tryd.ntmps37
  go_wp2_with fail
  refine (HSP.out w HG.out).mono ?_
  rintro e w1 ⟨rfl, hst, hb1⟩
  rw [HW.out] at hst ⊢
  rw [show (s0 :: [nm, a]).length = 3 from rfl] at hst ⊢
  have q0 : w1.cell? ⟨w.heap.size, 0, none⟩ = some (.string s0) := str_cell hst 0 s0 rfl
  have lg := lt_of_cell q0
  dsimp only at lg
  have hbN : Below NB w w1 := ⟨hb1.os, hb1.tape, hb1.output, hb1.size, fun k hk => hb1.block k (by omega)⟩
  have q1 : w1.cell? ⟨w.heap.size, 1, none⟩ = some (.string nm) := str_cell hst 1 nm rfl
  have kN := Blk.by hb1 kN0
  have cN := kN.cell
  have lN := kN.lt
  clear hst kN0
  go_wp2_with (go_at_call 48; refine (HI.out _).mono ?_; rintro e w2 ⟨rfl, rfl⟩)
  refine bodyPost_ret (v := .bool false) (by simp [results, Tryd.results37, go_sem, *]) rfl ⟨by rw [HL.out]; rfl, fun y hy => (by rw [HL.out] at hy; cases hy), hbN⟩

set_option maxRecDepth 100000 in
set_option maxHeartbeats 2000000 in
theorem netl_p4 (x : Nl) (s s0 : ByteArray) (r : List ByteArray) (NB B lo : Nat) (w : World) (hW : wrdS 32 s = s0 :: r) (hs : s.size ≤ 1048576) (hx : BoxN w NB lo x) (hG : Glob B w) (hB : B ≤ NB) (nm a : ByteArray) (hk : s0.data.toList = wPortL) (hr : r = [nm, a]) (hn : nameB nm = true) (hb : x.ds = []) (hnum : numL a.data.toList = none) :
    Calls Tryd.prog 37 #[.pointer (some ⟨NB, 0, none⟩), .string s, .bool false] w fun e w' => e = .returned (.bool (lineL false x (lsts (s0 :: r))).isSome) ∧ (∀ y, lineL false x (lsts (s0 :: r)) = some y → BoxN w' NB lo y) ∧ Below NB w w' := by
  have hmk : (⟨nm.data.toList.toArray⟩ : ByteArray) = nm := ba_ext rfl
  have HL : Hid (lineL false x (lsts (s0 :: r)) = none) := Lib.hid (by
    subst hr
    unfold lsts lineL
    simp only [List.map_cons, List.map_nil, hk, Bool.false_eq_true, if_false, if_true, hmk]
    rw [if_pos ⟨hn, hb⟩, hnum])
  have hnb := hx.lt
  have HSP := Lib.hid (fun w hG => strings_Split_any s B w hs hG)
  have HW := Lib.hid hW
  have HX := Lib.hid hx
  have HG := Lib.hid hG
  have hsw := wrd_size 32 s
  rw [hW] at hsw
  have HWZ : Hid (∀ y ∈ s0 :: r, y.size ≤ 1048576) := Lib.hid (fun y hy => by have := hsw.1 y hy; omega)
  have hrl : r.length ≤ 1048576 := by have := hsw.2.1; simp at this; omega
  subst hr
  have HI := Lib.hid (fun w => implIsName_any nm w (by have := HWZ.out nm (by simp); omega))
  obtain ⟨a1, c1, a2, c2, kN0, -⟩ := HX.out.own
  have e0 := nets_word s0
  have ep := port_word s0
  rw [hk, decide_eq_false (by decide)] at e0
  rw [hk, decide_eq_true rfl] at ep
  rw [hn] at HI
  have e5 : decide ((0 : Int) < (x.ds.length : Int)) = false := decide_eq_false (by rw [hb]; simp)
  have e6 : decide (0 < x.ds.length) = false := decide_eq_false (by rw [hb]; simp)
  have e7 : x.ds.length = 0 := by rw [hb]; rfl
  have HNU := Lib.hid (fun v ss cnt w h hs hl hB hG => netNumbers_any v ss cnt B w h hs hl hB hG)
  have HNN : Hid (numsL (lsts [a]) = none) := Lib.hid (by unfold lsts; simp [numsL, hnum])
  clear hk hb hmk hn hnum
  clear hx hG hW hsw
  go_enter Tryd.func37, Tryd.ntmps37
  go_wp2_with fail
  refine (HSP.out w HG.out).mono ?_
  rintro e w1 ⟨rfl, hst, hb1⟩
  rw [HW.out] at hst ⊢
  rw [show (s0 :: [nm, a]).length = 3 from rfl] at hst ⊢
  have q0 : w1.cell? ⟨w.heap.size, 0, none⟩ = some (.string s0) := str_cell hst 0 s0 rfl
  have lg := lt_of_cell q0
  dsimp only at lg
  have hbN : Below NB w w1 := ⟨hb1.os, hb1.tape, hb1.output, hb1.size, fun k hk => hb1.block k (by omega)⟩
  have q1 : w1.cell? ⟨w.heap.size, 1, none⟩ = some (.string nm) := str_cell hst 1 nm rfl
  have hwt := hst.tail.2.2.tail.2.2
  have HWT : Hid (StrSl w1 (.slice (some ⟨w.heap.size, 2, none⟩) 1 1) [a]) := Lib.hid hwt
  have kN := Blk.by hb1 kN0
  have cN := kN.cell
  have lN := kN.lt
  clear hst kN0 hwt
  go_wp2_with (go_at_call 48; refine (HI.out _).mono ?_; rintro e w2 ⟨rfl, rfl⟩)
  refine (HNU.out _ [a] 1 w1 HWT.out (fun y hy => HWZ.out y (by simp at hy; subst hy; simp)) (by simp) (by omega) (HG.out.by hb1 (by omega))).mono ?_
  rintro e w2 ⟨v2, rfl, hzs, hb2⟩
  have hbM : Below NB w w2 := hbN.trans ⟨hb2.os, hb2.tape, hb2.output, hb2.size, fun k hk => hb2.block k (by omega)⟩
  clear hb1 q0 lg HWT q1 cN lN kN hbN hzs hb2
  rw [HNN.out]
  simp only [cntB]
  go_wp2
  refine bodyPost_ret (v := .bool false) (by simp [results, Tryd.results37, go_sem, *]) rfl ⟨by rw [HL.out]; rfl, fun y hy => (by rw [HL.out] at hy; cases hy), hbM⟩

theorem word_n (s : ByteArray) : (s.toList == ([110] : List UInt8)) = decide (s.data.toList = [110]) := by
  have e1 := toList_eq s ⟨#[110]⟩
  rw [show (⟨#[110]⟩ : ByteArray).toList = [110] by simp] at e1
  rw [e1]
  by_cases h : s = ⟨#[110]⟩
  · subst h; rfl
  · rw [decide_eq_false h, decide_eq_false]
    intro e
    exact h (ba_ext (by rw [e]))
theorem word_p (s : ByteArray) : (s.toList == ([112] : List UInt8)) = decide (s.data.toList = [112]) := by
  have e1 := toList_eq s ⟨#[112]⟩
  rw [show (⟨#[112]⟩ : ByteArray).toList = [112] by simp] at e1
  rw [e1]
  by_cases h : s = ⟨#[112]⟩
  · subst h; rfl
  · rw [decide_eq_false h, decide_eq_false]
    intro e
    exact h (ba_ext (by rw [e]))
theorem word_r (s : ByteArray) : (s.toList == ([114] : List UInt8)) = decide (s.data.toList = [114]) := by
  have e1 := toList_eq s ⟨#[114]⟩
  rw [show (⟨#[114]⟩ : ByteArray).toList = [114] by simp] at e1
  rw [e1]
  by_cases h : s = ⟨#[114]⟩
  · subst h; rfl
  · rw [decide_eq_false h, decide_eq_false]
    intro e
    exact h (ba_ext (by rw [e]))
theorem kindL_none {w : List UInt8} (h : kindL w = none) : w ≠ [110] ∧ w ≠ [112] ∧ w ≠ [114] := by
  unfold kindL at h
  refine ⟨fun e => ?_, fun e => ?_, fun e => ?_⟩ <;> subst e <;> simp at h

set_option maxRecDepth 100000 in
set_option maxHeartbeats 2000000 in
theorem netl_k0 (x : Nl) (s s0 : ByteArray) (r : List ByteArray) (NB B lo : Nat) (w : World) (hW : wrdS 32 s = s0 :: r) (hs : s.size ≤ 1048576) (hx : BoxN w NB lo x) (hG : Glob B w) (hB : B ≤ NB) (hk : ¬ s0.data.toList = wPortL) (hk2 : ¬ s0.data.toList = wNetsL) (hkl : kindL s0.data.toList = none) :
    Calls Tryd.prog 37 #[.pointer (some ⟨NB, 0, none⟩), .string s, .bool false] w fun e w' => e = .returned (.bool (lineL false x (lsts (s0 :: r))).isSome) ∧ (∀ y, lineL false x (lsts (s0 :: r)) = some y → BoxN w' NB lo y) ∧ Below NB w w' := by
  have HL : Hid (lineL false x (lsts (s0 :: r)) = none) := Lib.hid (by
    unfold lsts lineL
    simp only [List.map_cons, hk, Bool.false_eq_true, if_false, hkl])
  have hnb := hx.lt
  have HSP := Lib.hid (fun w hG => strings_Split_any s B w hs hG)
  have HW := Lib.hid hW
  have HX := Lib.hid hx
  have HG := Lib.hid hG
  have hsw := wrd_size 32 s
  rw [hW] at hsw
  have HWZ : Hid (∀ y ∈ s0 :: r, y.size ≤ 1048576) := Lib.hid (fun y hy => by have := hsw.1 y hy; omega)
  have hrl : r.length ≤ 1048576 := by have := hsw.2.1; simp at this; omega
  have e0 := nets_word s0
  have ep := port_word s0
  have en := word_n s0
  have eq := word_p s0
  have er := word_r s0
  obtain ⟨n1, n2, n3⟩ := kindL_none hkl
  rw [decide_eq_false hk2] at e0
  rw [decide_eq_false hk] at ep
  rw [decide_eq_false n1] at en
  rw [decide_eq_false n2] at eq
  rw [decide_eq_false n3] at er
  have e1 : (0 : Int) < ((r.length + 1 : Nat) : Int) := by omega
  clear hk hk2 hkl n1 n2 n3
  clear hx hG hW hsw
  go_enter Tryd.func37, Tryd.ntmps37
  go_wp2_with fail
  refine (HSP.out w HG.out).mono ?_
  rintro e w1 ⟨rfl, hst, hb1⟩
  rw [HW.out] at hst ⊢
  rw [show (s0 :: r).length = r.length + 1 from rfl] at hst ⊢
  have q0 : w1.cell? ⟨w.heap.size, 0, none⟩ = some (.string s0) := str_cell hst 0 s0 rfl
  have lg := lt_of_cell q0
  dsimp only at lg
  have hbN : Below NB w w1 := ⟨hb1.os, hb1.tape, hb1.output, hb1.size, fun k hk => hb1.block k (by omega)⟩
  clear hst
  go_wp2
  refine bodyPost_ret (v := .bool false) (by simp [results, Tryd.results37, go_sem, *]) rfl ⟨by rw [HL.out]; rfl, fun y hy => (by rw [HL.out] at hy; cases hy), hbN⟩

set_option maxRecDepth 100000 in
set_option maxHeartbeats 2000000 in
theorem netl_k1_0 (x : Nl) (s s0 : ByteArray) (r : List ByteArray) (NB B lo : Nat) (w : World) (hW : wrdS 32 s = s0 :: r) (hs : s.size ≤ 1048576) (hx : BoxN w NB lo x) (hG : Glob B w) (hB : B ≤ NB) (hkl : kindL s0.data.toList = some 0) (hc : cntB (numsL (lsts r)) 5 = false) :
    Calls Tryd.prog 37 #[.pointer (some ⟨NB, 0, none⟩), .string s, .bool false] w fun e w' => e = .returned (.bool (lineL false x (lsts (s0 :: r))).isSome) ∧ (∀ y, lineL false x (lsts (s0 :: r)) = some y → BoxN w' NB lo y) ∧ Below NB w w' := by
  have HL : Hid (lineL false x (lsts (s0 :: r)) = none) := Lib.hid (by
    have hk : ¬ s0.data.toList = wPortL := by
      intro e
      rw [e] at hkl
      exact absurd hkl (by decide)
    unfold lsts lineL
    simp only [List.map_cons, hk, Bool.false_eq_true, if_false, hkl]
    match hn : numsL (r.map fun b : ByteArray => b.data.toList) with
    | none => rfl
    | some zs =>
      dsimp only
      rw [show numsL (lsts r) = some zs from hn] at hc
      rw [if_neg]
      intro e
      rw [show cntB (some zs) 5 = ((zs.length : Int) == 5) from rfl, e, show pinN 0 = 3 from rfl] at hc
      simp at hc)
  have hnb := hx.lt
  have HSP := Lib.hid (fun w hG => strings_Split_any s B w hs hG)
  have HW := Lib.hid hW
  have HX := Lib.hid hx
  have HG := Lib.hid hG
  have hsw := wrd_size 32 s
  rw [hW] at hsw
  have HWZ : Hid (∀ y ∈ s0 :: r, y.size ≤ 1048576) := Lib.hid (fun y hy => by have := hsw.1 y hy; omega)
  have hrl : r.length ≤ 1048576 := by have := hsw.2.1; simp at this; omega
  have e0 := nets_word s0
  have ep := port_word s0
  have en := word_n s0
  have eq := word_p s0
  have er := word_r s0
  have hks : s0.data.toList = [110] := by
    obtain ⟨h1, -⟩ := kindL_word hkl
    rw [← h1]; rfl
  have hs0 : s0 = ⟨#[110]⟩ := ba_ext (by rw [hks])
  rw [decide_eq_false (by rw [hks]; decide)] at e0
  rw [decide_eq_false (by rw [hks]; decide)] at ep
  rw [decide_eq_true hks] at en
  rw [decide_eq_false (by rw [hks]; decide)] at eq
  rw [decide_eq_false (by rw [hks]; decide)] at er
  have HIX : Hid (∀ (w : World) (g : Nat), Blk w g #[.string ⟨#[110]⟩, .string ⟨#[112]⟩, .string ⟨#[114]⟩] 9 → Calls Tryd.prog 70 #[.slice (some ⟨g, 0, none⟩) 3 3, .string s0] w fun e w' => e = .returned (.int .i64 0) ∧ w' = w) := Lib.hid (fun w g hB => by
    have h := Tryd.slices_Index_string g 0 3 3 [⟨#[110]⟩, ⟨#[112]⟩, ⟨#[114]⟩] s0 w (by decide) (by decide) (fun j hj => by
      rw [hB.cell]
      match j, hj with
      | 0, _ => rfl
      | 1, _ => rfl
      | 2, _ => rfl
      | j + 3, hj => simp at hj; omega)
    have e : Go.Lib.idxOfS ([⟨#[110]⟩, ⟨#[112]⟩, ⟨#[114]⟩].take 3) s0 = 0 := by rw [hs0]; decide
    rw [e] at h
    exact h)
  have HPC : Hid (∀ w : World, Calls Tryd.prog 71 #[.int .i64 0] w fun e w' => e = .returned (.int .i64 3) ∧ w = w') := Lib.hid (fun w => pinCount_any 0 w)
  have HNU := Lib.hid (fun v ss cnt w h hs hl hB hG => netNumbers_any v ss cnt B w h hs hl hB hG)
  have HC := Lib.hid hc
  clear hkl hc hks hs0
  clear hx hG hW hsw
  go_enter Tryd.func37, Tryd.ntmps37
  go_wp2_with fail
  refine (HSP.out w HG.out).mono ?_
  rintro e w1 ⟨rfl, hst, hb1⟩
  rw [HW.out] at hst ⊢
  rw [show (s0 :: r).length = r.length + 1 from rfl] at hst ⊢
  have q0 : w1.cell? ⟨w.heap.size, 0, none⟩ = some (.string s0) := str_cell hst 0 s0 rfl
  have lg := lt_of_cell q0
  dsimp only at lg
  have hbN : Below NB w w1 := ⟨hb1.os, hb1.tape, hb1.output, hb1.size, fun k hk => hb1.block k (by omega)⟩
  obtain ⟨k, hk0⟩ : ∃ k, r.length = k := ⟨_, rfl⟩
  obtain ⟨-, hc1, hwt⟩ := hst.tail
  rw [hk0] at hwt hrl ⊢
  rw [show k + 1 - 1 = k by omega] at hwt
  have hcase : (k = 0 ∧ StrSl w1 (.slice (some ⟨w.heap.size, 0, none⟩) 0 0) r) ∨ (¬ k = 0 ∧ StrSl w1 (.slice (some ⟨w.heap.size, 1, none⟩) k k) r) := by
    by_cases h : k = 0
    · exact .inl ⟨h, .inl ⟨some ⟨w.heap.size, 0, none⟩, 0, rfl, List.eq_nil_of_length_eq_zero (by omega)⟩⟩
    · exact .inr ⟨h, hwt⟩
  have HK0 := Lib.hid hk0
  have e8 : (0 : Int) < ((k + 1 : Nat) : Int) := by omega
  clear hwt hst hk0
  rcases hcase with ⟨hcz, hwt⟩ | ⟨hcz, hwt⟩
  all_goals
    have HWT := Lib.hid hwt
    clear hwt
    go_wp2_with fail
    refine (HIX.out (w1.alloc (.cells #[.string ⟨#[110]⟩, .string ⟨#[112]⟩, .string ⟨#[114]⟩] 9)) w1.heap.size (Blk.new _ rfl)).mono ?_
    rintro e w2 ⟨rfl, rfl⟩
    have hal : Below w1.heap.size w1 (w1.alloc (.cells #[.string ⟨#[110]⟩, .string ⟨#[112]⟩, .string ⟨#[114]⟩] 9)) := (Below.refl _ w1).alloc (Nat.le_refl _) _
    have HWT2 := Lib.hid (HWT.out.by hal)
    have hb2 : Below w.heap.size w (w1.alloc (.cells #[.string ⟨#[110]⟩, .string ⟨#[112]⟩, .string ⟨#[114]⟩] 9)) := below_on hal hb1
    have q1 := cell_by' hal q0
    have lg1 := lt_of_cell q1
    dsimp only at lg1
    clear hal HWT q0 lg hbN hb1
    generalize w1.alloc (.cells #[.string ⟨#[110]⟩, .string ⟨#[112]⟩, .string ⟨#[114]⟩] 9) = w2 at *
    go_wp2_with fail
    refine (HPC.out w2).mono ?_
    rintro e w3 ⟨rfl, rfl⟩
    go_wp2_with fail
    refine (HNU.out _ r 5 w2 HWT2.out (fun y hy => HWZ.out y (List.mem_cons_of_mem _ hy)) (by have := HK0.out; omega) (by have := hb2.size; omega) (HG.out.by hb2 (by omega))).mono ?_
    rintro e w3 ⟨v2, rfl, hzs, hb3⟩
    have hbM0 : Below w.heap.size w w3 := below_on hb3 hb2
    have hbM : Below NB w w3 := ⟨hbM0.os, hbM0.tape, hbM0.output, hbM0.size, fun k hk => hbM0.block k (by omega)⟩
    have q2 := cell_by' hb3 q1
    clear q1 lg1 HWT2
    rw [HC.out]
    clear hzs hb3 hb2 hbM0 q2
    go_wp2
    refine bodyPost_ret (v := .bool false) (by simp [results, Tryd.results37, go_sem, *]) rfl ⟨by rw [HL.out]; rfl, fun y hy => (by rw [HL.out] at hy; cases hy), hbM⟩

set_option maxRecDepth 100000 in
set_option maxHeartbeats 2000000 in
theorem netl_k1_1 (x : Nl) (s s0 : ByteArray) (r : List ByteArray) (NB B lo : Nat) (w : World) (hW : wrdS 32 s = s0 :: r) (hs : s.size ≤ 1048576) (hx : BoxN w NB lo x) (hG : Glob B w) (hB : B ≤ NB) (hkl : kindL s0.data.toList = some 1) (hc : cntB (numsL (lsts r)) 5 = false) :
    Calls Tryd.prog 37 #[.pointer (some ⟨NB, 0, none⟩), .string s, .bool false] w fun e w' => e = .returned (.bool (lineL false x (lsts (s0 :: r))).isSome) ∧ (∀ y, lineL false x (lsts (s0 :: r)) = some y → BoxN w' NB lo y) ∧ Below NB w w' := by
  have HL : Hid (lineL false x (lsts (s0 :: r)) = none) := Lib.hid (by
    have hk : ¬ s0.data.toList = wPortL := by
      intro e
      rw [e] at hkl
      exact absurd hkl (by decide)
    unfold lsts lineL
    simp only [List.map_cons, hk, Bool.false_eq_true, if_false, hkl]
    match hn : numsL (r.map fun b : ByteArray => b.data.toList) with
    | none => rfl
    | some zs =>
      dsimp only
      rw [show numsL (lsts r) = some zs from hn] at hc
      rw [if_neg]
      intro e
      rw [show cntB (some zs) 5 = ((zs.length : Int) == 5) from rfl, e, show pinN 1 = 3 from rfl] at hc
      simp at hc)
  have hnb := hx.lt
  have HSP := Lib.hid (fun w hG => strings_Split_any s B w hs hG)
  have HW := Lib.hid hW
  have HX := Lib.hid hx
  have HG := Lib.hid hG
  have hsw := wrd_size 32 s
  rw [hW] at hsw
  have HWZ : Hid (∀ y ∈ s0 :: r, y.size ≤ 1048576) := Lib.hid (fun y hy => by have := hsw.1 y hy; omega)
  have hrl : r.length ≤ 1048576 := by have := hsw.2.1; simp at this; omega
  have e0 := nets_word s0
  have ep := port_word s0
  have en := word_n s0
  have eq := word_p s0
  have er := word_r s0
  have hks : s0.data.toList = [112] := by
    obtain ⟨h1, -⟩ := kindL_word hkl
    rw [← h1]; rfl
  have hs0 : s0 = ⟨#[112]⟩ := ba_ext (by rw [hks])
  rw [decide_eq_false (by rw [hks]; decide)] at e0
  rw [decide_eq_false (by rw [hks]; decide)] at ep
  rw [decide_eq_false (by rw [hks]; decide)] at en
  rw [decide_eq_true hks] at eq
  rw [decide_eq_false (by rw [hks]; decide)] at er
  have HIX : Hid (∀ (w : World) (g : Nat), Blk w g #[.string ⟨#[110]⟩, .string ⟨#[112]⟩, .string ⟨#[114]⟩] 9 → Calls Tryd.prog 70 #[.slice (some ⟨g, 0, none⟩) 3 3, .string s0] w fun e w' => e = .returned (.int .i64 1) ∧ w' = w) := Lib.hid (fun w g hB => by
    have h := Tryd.slices_Index_string g 0 3 3 [⟨#[110]⟩, ⟨#[112]⟩, ⟨#[114]⟩] s0 w (by decide) (by decide) (fun j hj => by
      rw [hB.cell]
      match j, hj with
      | 0, _ => rfl
      | 1, _ => rfl
      | 2, _ => rfl
      | j + 3, hj => simp at hj; omega)
    have e : Go.Lib.idxOfS ([⟨#[110]⟩, ⟨#[112]⟩, ⟨#[114]⟩].take 3) s0 = 1 := by rw [hs0]; decide
    rw [e] at h
    exact h)
  have HPC : Hid (∀ w : World, Calls Tryd.prog 71 #[.int .i64 1] w fun e w' => e = .returned (.int .i64 3) ∧ w = w') := Lib.hid (fun w => pinCount_any 1 w)
  have HNU := Lib.hid (fun v ss cnt w h hs hl hB hG => netNumbers_any v ss cnt B w h hs hl hB hG)
  have HC := Lib.hid hc
  clear hkl hc hks hs0
  clear hx hG hW hsw
  go_enter Tryd.func37, Tryd.ntmps37
  go_wp2_with fail
  refine (HSP.out w HG.out).mono ?_
  rintro e w1 ⟨rfl, hst, hb1⟩
  rw [HW.out] at hst ⊢
  rw [show (s0 :: r).length = r.length + 1 from rfl] at hst ⊢
  have q0 : w1.cell? ⟨w.heap.size, 0, none⟩ = some (.string s0) := str_cell hst 0 s0 rfl
  have lg := lt_of_cell q0
  dsimp only at lg
  have hbN : Below NB w w1 := ⟨hb1.os, hb1.tape, hb1.output, hb1.size, fun k hk => hb1.block k (by omega)⟩
  obtain ⟨k, hk0⟩ : ∃ k, r.length = k := ⟨_, rfl⟩
  obtain ⟨-, hc1, hwt⟩ := hst.tail
  rw [hk0] at hwt hrl ⊢
  rw [show k + 1 - 1 = k by omega] at hwt
  have hcase : (k = 0 ∧ StrSl w1 (.slice (some ⟨w.heap.size, 0, none⟩) 0 0) r) ∨ (¬ k = 0 ∧ StrSl w1 (.slice (some ⟨w.heap.size, 1, none⟩) k k) r) := by
    by_cases h : k = 0
    · exact .inl ⟨h, .inl ⟨some ⟨w.heap.size, 0, none⟩, 0, rfl, List.eq_nil_of_length_eq_zero (by omega)⟩⟩
    · exact .inr ⟨h, hwt⟩
  have HK0 := Lib.hid hk0
  have e8 : (0 : Int) < ((k + 1 : Nat) : Int) := by omega
  clear hwt hst hk0
  rcases hcase with ⟨hcz, hwt⟩ | ⟨hcz, hwt⟩
  all_goals
    have HWT := Lib.hid hwt
    clear hwt
    go_wp2_with fail
    refine (HIX.out (w1.alloc (.cells #[.string ⟨#[110]⟩, .string ⟨#[112]⟩, .string ⟨#[114]⟩] 9)) w1.heap.size (Blk.new _ rfl)).mono ?_
    rintro e w2 ⟨rfl, rfl⟩
    have hal : Below w1.heap.size w1 (w1.alloc (.cells #[.string ⟨#[110]⟩, .string ⟨#[112]⟩, .string ⟨#[114]⟩] 9)) := (Below.refl _ w1).alloc (Nat.le_refl _) _
    have HWT2 := Lib.hid (HWT.out.by hal)
    have hb2 : Below w.heap.size w (w1.alloc (.cells #[.string ⟨#[110]⟩, .string ⟨#[112]⟩, .string ⟨#[114]⟩] 9)) := below_on hal hb1
    have q1 := cell_by' hal q0
    have lg1 := lt_of_cell q1
    dsimp only at lg1
    clear hal HWT q0 lg hbN hb1
    generalize w1.alloc (.cells #[.string ⟨#[110]⟩, .string ⟨#[112]⟩, .string ⟨#[114]⟩] 9) = w2 at *
    go_wp2_with fail
    refine (HPC.out w2).mono ?_
    rintro e w3 ⟨rfl, rfl⟩
    go_wp2_with fail
    refine (HNU.out _ r 5 w2 HWT2.out (fun y hy => HWZ.out y (List.mem_cons_of_mem _ hy)) (by have := HK0.out; omega) (by have := hb2.size; omega) (HG.out.by hb2 (by omega))).mono ?_
    rintro e w3 ⟨v2, rfl, hzs, hb3⟩
    have hbM0 : Below w.heap.size w w3 := below_on hb3 hb2
    have hbM : Below NB w w3 := ⟨hbM0.os, hbM0.tape, hbM0.output, hbM0.size, fun k hk => hbM0.block k (by omega)⟩
    have q2 := cell_by' hb3 q1
    clear q1 lg1 HWT2
    rw [HC.out]
    clear hzs hb3 hb2 hbM0 q2
    go_wp2
    refine bodyPost_ret (v := .bool false) (by simp [results, Tryd.results37, go_sem, *]) rfl ⟨by rw [HL.out]; rfl, fun y hy => (by rw [HL.out] at hy; cases hy), hbM⟩

set_option maxRecDepth 100000 in
set_option maxHeartbeats 2000000 in
theorem netl_k1_2 (x : Nl) (s s0 : ByteArray) (r : List ByteArray) (NB B lo : Nat) (w : World) (hW : wrdS 32 s = s0 :: r) (hs : s.size ≤ 1048576) (hx : BoxN w NB lo x) (hG : Glob B w) (hB : B ≤ NB) (hkl : kindL s0.data.toList = some 2) (hc : cntB (numsL (lsts r)) 4 = false) :
    Calls Tryd.prog 37 #[.pointer (some ⟨NB, 0, none⟩), .string s, .bool false] w fun e w' => e = .returned (.bool (lineL false x (lsts (s0 :: r))).isSome) ∧ (∀ y, lineL false x (lsts (s0 :: r)) = some y → BoxN w' NB lo y) ∧ Below NB w w' := by
  have HL : Hid (lineL false x (lsts (s0 :: r)) = none) := Lib.hid (by
    have hk : ¬ s0.data.toList = wPortL := by
      intro e
      rw [e] at hkl
      exact absurd hkl (by decide)
    unfold lsts lineL
    simp only [List.map_cons, hk, Bool.false_eq_true, if_false, hkl]
    match hn : numsL (r.map fun b : ByteArray => b.data.toList) with
    | none => rfl
    | some zs =>
      dsimp only
      rw [show numsL (lsts r) = some zs from hn] at hc
      rw [if_neg]
      intro e
      rw [show cntB (some zs) 4 = ((zs.length : Int) == 4) from rfl, e, show pinN 2 = 2 from rfl] at hc
      simp at hc)
  have hnb := hx.lt
  have HSP := Lib.hid (fun w hG => strings_Split_any s B w hs hG)
  have HW := Lib.hid hW
  have HX := Lib.hid hx
  have HG := Lib.hid hG
  have hsw := wrd_size 32 s
  rw [hW] at hsw
  have HWZ : Hid (∀ y ∈ s0 :: r, y.size ≤ 1048576) := Lib.hid (fun y hy => by have := hsw.1 y hy; omega)
  have hrl : r.length ≤ 1048576 := by have := hsw.2.1; simp at this; omega
  have e0 := nets_word s0
  have ep := port_word s0
  have en := word_n s0
  have eq := word_p s0
  have er := word_r s0
  have hks : s0.data.toList = [114] := by
    obtain ⟨h1, -⟩ := kindL_word hkl
    rw [← h1]; rfl
  have hs0 : s0 = ⟨#[114]⟩ := ba_ext (by rw [hks])
  rw [decide_eq_false (by rw [hks]; decide)] at e0
  rw [decide_eq_false (by rw [hks]; decide)] at ep
  rw [decide_eq_false (by rw [hks]; decide)] at en
  rw [decide_eq_false (by rw [hks]; decide)] at eq
  rw [decide_eq_true hks] at er
  have HIX : Hid (∀ (w : World) (g : Nat), Blk w g #[.string ⟨#[110]⟩, .string ⟨#[112]⟩, .string ⟨#[114]⟩] 9 → Calls Tryd.prog 70 #[.slice (some ⟨g, 0, none⟩) 3 3, .string s0] w fun e w' => e = .returned (.int .i64 2) ∧ w' = w) := Lib.hid (fun w g hB => by
    have h := Tryd.slices_Index_string g 0 3 3 [⟨#[110]⟩, ⟨#[112]⟩, ⟨#[114]⟩] s0 w (by decide) (by decide) (fun j hj => by
      rw [hB.cell]
      match j, hj with
      | 0, _ => rfl
      | 1, _ => rfl
      | 2, _ => rfl
      | j + 3, hj => simp at hj; omega)
    have e : Go.Lib.idxOfS ([⟨#[110]⟩, ⟨#[112]⟩, ⟨#[114]⟩].take 3) s0 = 2 := by rw [hs0]; decide
    rw [e] at h
    exact h)
  have HPC : Hid (∀ w : World, Calls Tryd.prog 71 #[.int .i64 2] w fun e w' => e = .returned (.int .i64 2) ∧ w = w') := Lib.hid (fun w => pinCount_any 2 w)
  have HNU := Lib.hid (fun v ss cnt w h hs hl hB hG => netNumbers_any v ss cnt B w h hs hl hB hG)
  have HC := Lib.hid hc
  clear hkl hc hks hs0
  clear hx hG hW hsw
  go_enter Tryd.func37, Tryd.ntmps37
  go_wp2_with fail
  refine (HSP.out w HG.out).mono ?_
  rintro e w1 ⟨rfl, hst, hb1⟩
  rw [HW.out] at hst ⊢
  rw [show (s0 :: r).length = r.length + 1 from rfl] at hst ⊢
  have q0 : w1.cell? ⟨w.heap.size, 0, none⟩ = some (.string s0) := str_cell hst 0 s0 rfl
  have lg := lt_of_cell q0
  dsimp only at lg
  have hbN : Below NB w w1 := ⟨hb1.os, hb1.tape, hb1.output, hb1.size, fun k hk => hb1.block k (by omega)⟩
  obtain ⟨k, hk0⟩ : ∃ k, r.length = k := ⟨_, rfl⟩
  obtain ⟨-, hc1, hwt⟩ := hst.tail
  rw [hk0] at hwt hrl ⊢
  rw [show k + 1 - 1 = k by omega] at hwt
  have hcase : (k = 0 ∧ StrSl w1 (.slice (some ⟨w.heap.size, 0, none⟩) 0 0) r) ∨ (¬ k = 0 ∧ StrSl w1 (.slice (some ⟨w.heap.size, 1, none⟩) k k) r) := by
    by_cases h : k = 0
    · exact .inl ⟨h, .inl ⟨some ⟨w.heap.size, 0, none⟩, 0, rfl, List.eq_nil_of_length_eq_zero (by omega)⟩⟩
    · exact .inr ⟨h, hwt⟩
  have HK0 := Lib.hid hk0
  have e8 : (0 : Int) < ((k + 1 : Nat) : Int) := by omega
  clear hwt hst hk0
  rcases hcase with ⟨hcz, hwt⟩ | ⟨hcz, hwt⟩
  all_goals
    have HWT := Lib.hid hwt
    clear hwt
    go_wp2_with fail
    refine (HIX.out (w1.alloc (.cells #[.string ⟨#[110]⟩, .string ⟨#[112]⟩, .string ⟨#[114]⟩] 9)) w1.heap.size (Blk.new _ rfl)).mono ?_
    rintro e w2 ⟨rfl, rfl⟩
    have hal : Below w1.heap.size w1 (w1.alloc (.cells #[.string ⟨#[110]⟩, .string ⟨#[112]⟩, .string ⟨#[114]⟩] 9)) := (Below.refl _ w1).alloc (Nat.le_refl _) _
    have HWT2 := Lib.hid (HWT.out.by hal)
    have hb2 : Below w.heap.size w (w1.alloc (.cells #[.string ⟨#[110]⟩, .string ⟨#[112]⟩, .string ⟨#[114]⟩] 9)) := below_on hal hb1
    have q1 := cell_by' hal q0
    have lg1 := lt_of_cell q1
    dsimp only at lg1
    clear hal HWT q0 lg hbN hb1
    generalize w1.alloc (.cells #[.string ⟨#[110]⟩, .string ⟨#[112]⟩, .string ⟨#[114]⟩] 9) = w2 at *
    go_wp2_with fail
    refine (HPC.out w2).mono ?_
    rintro e w3 ⟨rfl, rfl⟩
    go_wp2_with fail
    refine (HNU.out _ r 4 w2 HWT2.out (fun y hy => HWZ.out y (List.mem_cons_of_mem _ hy)) (by have := HK0.out; omega) (by have := hb2.size; omega) (HG.out.by hb2 (by omega))).mono ?_
    rintro e w3 ⟨v2, rfl, hzs, hb3⟩
    have hbM0 : Below w.heap.size w w3 := below_on hb3 hb2
    have hbM : Below NB w w3 := ⟨hbM0.os, hbM0.tape, hbM0.output, hbM0.size, fun k hk => hbM0.block k (by omega)⟩
    have q2 := cell_by' hb3 q1
    clear q1 lg1 HWT2
    rw [HC.out]
    clear hzs hb3 hb2 hbM0 q2
    go_wp2
    refine bodyPost_ret (v := .bool false) (by simp [results, Tryd.results37, go_sem, *]) rfl ⟨by rw [HL.out]; rfl, fun y hy => (by rw [HL.out] at hy; cases hy), hbM⟩
end Go.Proofs.YtglddnkpccgchaaDoor
