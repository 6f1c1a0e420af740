/- The reference's l27Line. -/
import Derived.Test.YtglddnkpccgchaaDoorPrsC
import Derived.Test.YtglddnkpccgchaaDoorRowM
import Derived.Test.YtglddnkpccgchaaDoorValid0
import Derived.Test.YtglddnkpccgchaaDoorNls
import Derived.Test.YtglddnkpccgchaaDoorTakeL
namespace Go.Proofs.YtglddnkpccgchaaDoor
open Go.RowKit
set_option linter.unusedVariables false
set_option linter.unusedSimpArgs false

/-- A value with a netlist's shape. -/
def ShNl (v : Value) : Prop := ∃ (z : Int) (a1 : Option Addr) (n1 c1 : Nat) (a2 : Option Addr) (n2 c2 : Nat), v = .agg #[.int .i64 z, .slice a1 n1 c1, .slice a2 n2 c2]
theorem str_at {w : World} {a0 : Option Addr} {n c : Nat} {x : ByteArray} {r : List ByteArray} (h : StrSl w (.slice a0 n c) (x :: r)) : ∃ g o, a0 = some ⟨g, o, none⟩ ∧ n = r.length + 1 := by
  rcases h with ⟨a, c', h1, h2⟩ | ⟨g', o', c', h1, h2, h3, h4⟩
  · cases h2
  · simp only [Value.slice.injEq] at h1
    exact ⟨g', o', h1.1, by rw [h1.2.1]; rfl⟩
theorem str_cell {w : World} {g o n c : Nat} {zs : List ByteArray} (h : StrSl w (.slice (some ⟨g, o, none⟩) n c) zs) (i : Nat) (y : ByteArray) (hy : zs[i]? = some y) : w.cell? ⟨g, o + i, none⟩ = some (.string y) := by
  rcases h with ⟨a, c', h1, h2⟩ | ⟨g', o', c', h1, h2, h3, h4⟩
  · rw [h2] at hy; simp at hy
  · simp only [Value.slice.injEq, Option.some.injEq, Addr.mk.injEq, and_true] at h1
    obtain ⟨⟨rfl, rfl⟩, rfl, rfl⟩ := h1
    exact h4 i y hy
def wPortB : ByteArray := ⟨#[112, 111, 114, 116]⟩
theorem port_word (s : ByteArray) : (s.toList == ([112, 111, 114, 116] : List UInt8)) = decide (s.data.toList = wPortL) := by
  rw [show ([112, 111, 114, 116] : List UInt8) = wPortB.toList by simp [wPortB], toList_eq]
  by_cases h : s = wPortB
  · subst h; rfl
  · rw [decide_eq_false h, decide_eq_false]
    exact fun e => h (ba_ext e)

set_option maxRecDepth 100000 in
set_option maxHeartbeats 2000000 in
theorem line_p1 (x : Nl) (v : Value) (a0 : Option Addr) (n c : Nat) (s0 : ByteArray) (r : List ByteArray) (w : World) (h : NlV w v x) (hw : StrSl w (.slice a0 n c) (s0 :: r)) (hk : s0.data.toList = wPortL) (hr : r.length ≠ 2) :
    Calls Tryd.prog 33 #[v, .slice a0 n c] w fun e w' => ∃ v', e = .returned (.tuple #[v', .bool (lineL false x (lsts (s0 :: r))).isSome]) ∧ (∀ y, lineL false x (lsts (s0 :: r)) = some y → NlV w' v' y) ∧ Below w.heap.size w w' ∧ ShNl v' := by
  have HL : Hid (lineL false x (lsts (s0 :: r)) = none) := Lib.hid (by
    unfold lsts lineL
    simp only [List.map_cons, hk, Bool.false_eq_true, if_false, if_true]
    match r, hr with
    | [], _ => rfl
    | [_], _ => rfl
    | [_, _], h => exact absurd rfl h
    | _ :: _ :: _ :: _, _ => rfl)
  obtain ⟨g, o, rfl, hn0⟩ := str_at hw
  obtain ⟨s1, s2, rfl, hd, hp⟩ := h
  obtain ⟨a1, c1, rfl⟩ := hd.sized
  obtain ⟨a2, c2, rfl⟩ := hp.sized
  have q0 : w.cell? ⟨g, o, none⟩ = some (.string s0) := str_cell hw 0 s0 rfl
  have e0 : (s0.toList == ([112, 111, 114, 116] : List UInt8)) = true := by rw [port_word, hk]; rfl
  have e1 : ((n : Int) != 3) = true := by simp; omega
  have e2 : (0 : Int) < (n : Int) := by omega
  have e3 : 0 < n := by omega
  have lg := lt_of_cell q0
  dsimp only at lg
  clear hn0 hr hk hd hp hw
  go_enter Tryd.func33, Tryd.ntmps33
  go_wp2
  refine bodyPost_ret (v := .tuple #[.agg #[.int .i64 x.nets, .slice a1 x.ds.length c1, .slice a2 x.ps.length c2], .bool false]) (by simp [results, Tryd.results33, go_sem, *]) rfl ⟨_, by rw [HL.out]; rfl, fun y hy => (by rw [HL.out] at hy; cases hy), (by ((repeat (first | (with_reducible exact Below.refl _ _) | (with_reducible refine below_drewN ?_ _) | (with_reducible refine Below.drew ?_) | (with_reducible refine below_al ?_ _) | (with_reducible refine below_on (by assumption) ?_) | ((with_reducible refine Below.setCell ?_ ?_ _); rotate_left; focus (first | omega | (simp; done) | (simp; omega))) | (with_reducible assumption))); done)), _, _, _, _, _, _, _, rfl⟩

set_option maxRecDepth 100000 in
set_option maxHeartbeats 2000000 in
theorem line_p2 (x : Nl) (v : Value) (a0 : Option Addr) (n c : Nat) (s0 : ByteArray) (r : List ByteArray) (w : World) (h : NlV w v x) (hw : StrSl w (.slice a0 n c) (s0 :: r)) (nm a : ByteArray) (hk : s0.data.toList = wPortL) (hr : r = [nm, a]) (hs : nm.size ≤ 1048576) (hb : nameB nm = false ∨ x.ds ≠ []) :
    Calls Tryd.prog 33 #[v, .slice a0 n c] w fun e w' => ∃ v', e = .returned (.tuple #[v', .bool (lineL false x (lsts (s0 :: r))).isSome]) ∧ (∀ y, lineL false x (lsts (s0 :: r)) = some y → NlV w' v' y) ∧ Below w.heap.size w w' ∧ ShNl v' := by
  have hmk : (⟨nm.data.toList.toArray⟩ : ByteArray) = nm := ba_ext rfl
  have HL : Hid (lineL false x (lsts (s0 :: r)) = none) := Lib.hid (by
    subst hr
    unfold lsts lineL
    simp only [List.map_cons, List.map_nil, hk, Bool.false_eq_true, if_false, if_true, hmk]
    rw [if_neg]
    rintro ⟨h1, h2⟩
    rcases hb with h | h
    · rw [h1] at h; cases h
    · exact h h2)
  obtain ⟨g, o, rfl, hn0⟩ := str_at hw
  obtain ⟨s1, s2, rfl, hd, hp⟩ := h
  obtain ⟨a1, c1, rfl⟩ := hd.sized
  obtain ⟨a2, c2, rfl⟩ := hp.sized
  subst hr
  have q0 : w.cell? ⟨g, o, none⟩ = some (.string s0) := str_cell hw 0 s0 rfl
  have q1 : w.cell? ⟨g, o + 1, none⟩ = some (.string nm) := str_cell hw 1 nm rfl
  have e0 : (s0.toList == ([112, 111, 114, 116] : List UInt8)) = true := by rw [port_word, hk]; rfl
  obtain rfl : n = 3 := hn0
  have lg := lt_of_cell q0
  dsimp only at lg
  have HI := Lib.hid (fun w => specIsName_any nm w (by omega))
  clear hk hd hp hw hmk
  by_cases hnb : nameB nm = true
  · have hds : x.ds.length ≠ 0 := by
      rcases hb with h | h
      · rw [hnb] at h; cases h
      · exact fun e => h (List.eq_nil_of_length_eq_zero e)
    have e5 : decide ((0 : Int) < (x.ds.length : Int)) = true := decide_eq_true (by omega)
    rw [hnb] at HI
    clear hb hnb
    go_enter Tryd.func33, Tryd.ntmps33
    go_wp2_with (go_at_call 46; refine (HI.out _).mono ?_; rintro e w1 ⟨rfl, rfl⟩)
    refine bodyPost_ret (v := .tuple #[.agg #[.int .i64 x.nets, .slice a1 x.ds.length c1, .slice a2 x.ps.length c2], .bool false]) (by simp [results, Tryd.results33, go_sem, *]) rfl ⟨_, by rw [HL.out]; rfl, fun y hy => (by rw [HL.out] at hy; cases hy), (by ((repeat (first | (with_reducible exact Below.refl _ _) | (with_reducible refine below_drewN ?_ _) | (with_reducible refine Below.drew ?_) | (with_reducible refine below_al ?_ _) | (with_reducible refine below_on (by assumption) ?_) | ((with_reducible refine Below.setCell ?_ ?_ _); rotate_left; focus (first | omega | (simp; done) | (simp; omega))) | (with_reducible assumption))); done)), _, _, _, _, _, _, _, rfl⟩
  · have hnb' : nameB nm = false := by simpa using hnb
    rw [hnb'] at HI
    clear hb hnb hnb'
    go_enter Tryd.func33, Tryd.ntmps33
    go_wp2_with (go_at_call 46; refine (HI.out _).mono ?_; rintro e w1 ⟨rfl, rfl⟩)
    refine bodyPost_ret (v := .tuple #[.agg #[.int .i64 x.nets, .slice a1 x.ds.length c1, .slice a2 x.ps.length c2], .bool false]) (by simp [results, Tryd.results33, go_sem, *]) rfl ⟨_, by rw [HL.out]; rfl, fun y hy => (by rw [HL.out] at hy; cases hy), (by ((repeat (first | (with_reducible exact Below.refl _ _) | (with_reducible refine below_drewN ?_ _) | (with_reducible refine Below.drew ?_) | (with_reducible refine below_al ?_ _) | (with_reducible refine below_on (by assumption) ?_) | ((with_reducible refine Below.setCell ?_ ?_ _); rotate_left; focus (first | omega | (simp; done) | (simp; omega))) | (with_reducible assumption))); done)), _, _, _, _, _, _, _, rfl⟩

set_option maxRecDepth 100000 in
set_option maxHeartbeats 8000000 in
theorem line_p3 (x : Nl) (v : Value) (a0 : Option Addr) (n c : Nat) (s0 : ByteArray) (r : List ByteArray) (w : World) (h : NlV w v x) (hw : StrSl w (.slice a0 n c) (s0 :: r)) (nm a : ByteArray) (hk : s0.data.toList = wPortL) (hr : r = [nm, a]) (hs : nm.size ≤ 1048576 ∧ a.size ≤ 1048576) (hnb : nameB nm = true) (hds : x.ds = []) (hp50 : x.ps.length ≤ 50) :
    Calls Tryd.prog 33 #[v, .slice a0 n c] w fun e w' => ∃ v', e = .returned (.tuple #[v', .bool (lineL false x (lsts (s0 :: r))).isSome]) ∧ (∀ y, lineL false x (lsts (s0 :: r)) = some y → NlV w' v' y) ∧ Below w.heap.size w w' ∧ ShNl v' := by
  have hmk : (⟨nm.data.toList.toArray⟩ : ByteArray) = nm := ba_ext rfl
  obtain ⟨b, hbb⟩ : ∃ b, (numL a.data.toList).isSome = b := ⟨_, rfl⟩
  obtain ⟨m, hmm⟩ : ∃ m, (numL a.data.toList).getD 0 = m := ⟨_, rfl⟩
  have hline : lineL false x (lsts (s0 :: r)) = match numL a.data.toList with | some n => some { x with ps := x.ps ++ [⟨nm, (n : Int)⟩] } | none => none := by
    subst hr
    unfold lsts lineL
    simp only [List.map_cons, List.map_nil, hk, Bool.false_eq_true, if_false, if_true, hmk]
    rw [if_pos ⟨hnb, hds⟩]
    cases numL a.data.toList <;> rfl
  have HLB : Hid ((lineL false x (lsts (s0 :: r))).isSome = b) := Lib.hid (by rw [hline, ← hbb]; cases numL a.data.toList <;> rfl)
  have HLY : Hid (∀ y, lineL false x (lsts (s0 :: r)) = some y → y = { x with ps := x.ps ++ [⟨nm, (m : Int)⟩] }) := Lib.hid (fun y hy => by
    rw [hline] at hy
    cases hn : numL a.data.toList with
    | none => rw [hn] at hy; cases hy
    | some q => rw [hn] at hy hmm; cases hy; cases hmm; rfl)
  have HPA := Lib.hid (fun w => l16Parse_any a w hs.2)
  rw [hbb, hmm] at HPA
  obtain ⟨g, o, rfl, hn0⟩ := str_at hw
  obtain ⟨s1, s2, rfl, hd, hp⟩ := h
  obtain ⟨a1, c1, rfl⟩ := hd.sized
  obtain ⟨a2, c2, rfl⟩ := hp.sized
  subst hr
  have q0 : w.cell? ⟨g, o, none⟩ = some (.string s0) := str_cell hw 0 s0 rfl
  have q1 : w.cell? ⟨g, o + 1, none⟩ = some (.string nm) := str_cell hw 1 nm rfl
  have q2 : w.cell? ⟨g, o + 2, none⟩ = some (.string a) := str_cell hw 2 a rfl
  have e0 : (s0.toList == ([112, 111, 114, 116] : List UInt8)) = true := by rw [port_word, hk]; rfl
  obtain rfl : n = 3 := hn0
  have lg := lt_of_cell q0
  dsimp only at lg
  have HI := Lib.hid (fun w => specIsName_any nm w (by omega))
  rw [hnb] at HI
  have e5 : decide ((0 : Int) < (x.ds.length : Int)) = false := by rw [hds]; rfl
  have e6 : decide (0 < x.ds.length) = false := by rw [hds]; rfl
  have HD := Lib.hid hd
  have HP := Lib.hid hp
  clear hk hd hp hw hmk hline hbb hmm hds hnb
  go_enter Tryd.func33, Tryd.ntmps33
  go_wp2_with fail
  refine (HI.out _).mono ?_
  rintro e w1 ⟨rfl, rfl⟩
  go_wp2_with fail
  refine (HPA.out _).mono ?_
  rintro e w1 ⟨rfl, hb1⟩
  have kN : Blk w1 w.heap.size #[.int .i64 x.nets, .slice a1 x.ds.length c1, .slice a2 x.ps.length c2] 31 := (by ((repeat (first | (with_reducible assumption) | (with_reducible refine Blk.drewN ?_ _) | (with_reducible refine Blk.drew ?_) | ((with_reducible refine Blk.new _ ?_); focus (first | omega | (simp; done) | (simp; omega))) | (with_reducible refine Blk.past ?_ _) | ((with_reducible refine Blk.apart ?_ _ _ _ ?_); rotate_left; focus (first | omega | (simp; done) | (simp; omega))) | (with_reducible refine Blk.by (by assumption) ?_))); done))
  have kR : Blk w1 (w.heap.size + 1) #[.int .i64 0, .slice none 0 0, .slice none 0 0] 31 := (by ((repeat (first | (with_reducible assumption) | (with_reducible refine Blk.drewN ?_ _) | (with_reducible refine Blk.drew ?_) | ((with_reducible refine Blk.new _ ?_); focus (first | omega | (simp; done) | (simp; omega))) | (with_reducible refine Blk.past ?_ _) | ((with_reducible refine Blk.apart ?_ _ _ _ ?_); rotate_left; focus (first | omega | (simp; done) | (simp; omega))) | (with_reducible refine Blk.by (by assumption) ?_))); done))
  have hb : Below w.heap.size w w1 := (by ((repeat (first | (with_reducible exact Below.refl _ _) | (with_reducible refine below_drewN ?_ _) | (with_reducible refine Below.drew ?_) | (with_reducible refine below_al ?_ _) | (with_reducible refine below_on (by assumption) ?_) | ((with_reducible refine Below.setCell ?_ ?_ _); rotate_left; focus (first | omega | (simp; done) | (simp; omega))) | (with_reducible assumption))); done))
  have HD1 := Lib.hid (HD.out.by hb)
  have HP1 := Lib.hid (HP.out.by hb)
  replace q1 := cell_by' hb q1
  have hlg1 := lt_of_cell q1
  dsimp only at hlg1
  clear hb1 q0 q2 HD1 HP lg e0
  obtain ⟨NB, hNB⟩ : ∃ q, w.heap.size = q := ⟨_, rfl⟩
  go_upto_region 5 with fail
  rw [hNB] at kN kR
  (try rw [hNB])
  have hNBl : w.heap.size ≤ NB := by omega
  clear hNB
  have hS : (fun w' : World => Blk w' NB #[.int .i64 x.nets, .slice a1 x.ds.length c1, .slice a2 x.ps.length c2] 31 ∧ w'.cell? ⟨g, o + 1, none⟩ = some (.string nm)) { w1 with drawn := w1.drawn + 1 } := ⟨kN.drew, q1⟩
  refine wp_region_any (by kernel_rfl) (wpAny_of_E (S := (fun w' : World => Blk w' NB #[.int .i64 x.nets, .slice a1 x.ds.length c1, .slice a2 x.ps.length c2] 31 ∧ w'.cell? ⟨g, o + 1, none⟩ = some (.string nm))) (l := 11) _ _ _ _ ?_)
  change wpAnyE _ _ _ _ _ _ _ _ _ w1.drew
  refine wpAnyE_takeL (i := 1) (v := ?_) rfl (by kernel_rfl) (fun _ _ _ h => h) (Or.inl ⟨by rfl, ?_⟩) hS ?_
  rotate_left
  · intro w hSw; (try dsimp only at hSw); have qA := hSw.1.cell; have lA := hSw.1.lt; have qW := hSw.2; have lW := lt_of_cell qW; clear hSw; go_simp; (try with_reducible rfl)
  try simp only [Act.put, List.setIfInBounds_toArray, List.set_cons_zero, List.set_cons_succ]
  refine wpAnyE_takeL (i := 2) (v := ?_) rfl (by kernel_rfl) (fun _ _ _ h => h) (Or.inl ⟨by rfl, ?_⟩) hS ?_
  rotate_left
  · intro w hSw; (try dsimp only at hSw); have qA := hSw.1.cell; have lA := hSw.1.lt; have qW := hSw.2; have lW := lt_of_cell qW; clear hSw; go_simp; (try with_reducible rfl)
  try simp only [Act.put, List.setIfInBounds_toArray, List.set_cons_zero, List.set_cons_succ]
  refine wpAnyE_takeL (i := 4) (v := ?_) rfl (by kernel_rfl) (fun _ _ _ h => h) (Or.inl ⟨by rfl, ?_⟩) hS ?_
  rotate_left
  · intro w hSw; (try dsimp only at hSw); have qA := hSw.1.cell; have lA := hSw.1.lt; have qW := hSw.2; have lW := lt_of_cell qW; clear hSw; go_simp; (try with_reducible rfl)
  try simp only [Act.put, List.setIfInBounds_toArray, List.set_cons_zero, List.set_cons_succ]
  refine wpAnyE_takeL (i := 5) (v := ?_) rfl (by kernel_rfl) (fun _ _ _ h => h) (Or.inl ⟨by rfl, ?_⟩) hS ?_
  rotate_left
  · intro w hSw; (try dsimp only at hSw); have qA := hSw.1.cell; have lA := hSw.1.lt; have qW := hSw.2; have lW := lt_of_cell qW; clear hSw; go_simp; (try with_reducible rfl)
  try simp only [Act.put, List.setIfInBounds_toArray, List.set_cons_zero, List.set_cons_succ]
  refine wpAnyE_takeL (i := 6) (v := ?_) rfl (by kernel_rfl) (fun _ _ _ h => h) (Or.inl ⟨by rfl, ?_⟩) hS ?_
  rotate_left
  · intro w hSw; (try dsimp only at hSw); have qA := hSw.1.cell; have lA := hSw.1.lt; have qW := hSw.2; have lW := lt_of_cell qW; clear hSw; go_simp; (try with_reducible rfl)
  try simp only [Act.put, List.setIfInBounds_toArray, List.set_cons_zero, List.set_cons_succ]
  refine wpAnyE_takeL (i := 7) (v := ?_) rfl (by kernel_rfl) (fun _ _ _ h => h) (Or.inl ⟨by rfl, ?_⟩) hS ?_
  rotate_left
  · intro w hSw; (try dsimp only at hSw); have qA := hSw.1.cell; have lA := hSw.1.lt; have qW := hSw.2; have lW := lt_of_cell qW; clear hSw; go_simp; (try with_reducible rfl)
  try simp only [Act.put, List.setIfInBounds_toArray, List.set_cons_zero, List.set_cons_succ]
  refine wpAnyE_takeL (i := 8) (v := ?_) rfl (by kernel_rfl) (fun _ _ _ h => h) (Or.inl ⟨by rfl, ?_⟩) hS ?_
  rotate_left
  · intro w hSw; (try dsimp only at hSw); have qA := hSw.1.cell; have lA := hSw.1.lt; have qW := hSw.2; have lW := lt_of_cell qW; clear hSw; go_simp; (try with_reducible rfl)
  try simp only [Act.put, List.setIfInBounds_toArray, List.set_cons_zero, List.set_cons_succ]
  obtain ⟨y0, hy0⟩ : ∃ q, q = w1.drew := ⟨_, rfl⟩
  have kEc : Blk y0 NB #[.int .i64 x.nets, .slice a1 x.ds.length c1, .slice a2 x.ps.length c2] 31 := by rw [hy0]; exact kN.drew
  have kRc : Blk y0 (NB + 1) #[.int .i64 0, .slice none 0 0, .slice none 0 0] 31 := by rw [hy0]; exact kR.drew
  have hbc : Below w1.heap.size w1 y0 := by rw [hy0]; exact (Below.refl _ w1).drew
  have hEx := kN.lt
  have hRx := kR.lt
  rw [← hy0]
  clear hy0 kN kR
  refine wpAnyE_twoL (k := 0) (k' := 9) (by kernel_rfl) rfl rfl (fun K hK => ?_) (fun K hK => ?_)
  · go_simp
    have hal : Below y0.heap.size y0 (y0.alloc (.cells #[] 49)) := (Below.refl _ y0).alloc (Nat.le_refl _) _
    have hz_LB : w1.heap.size ≤ y0.heap.size := hbc.size
    replace kEc := Blk.by hal kEc
    replace kRc := Blk.by hal kRc
    replace hbc := below_on hal hbc
    have kLc : Blk (y0.alloc (.cells #[] 49)) y0.heap.size #[] 49 := Blk.new _ rfl
    refine hK.out _ _ (fun _ => ⟨kEc, cell_by' hbc q1⟩) ?_
    try simp only [Act.put, List.setIfInBounds_toArray, List.set_cons_zero, List.set_cons_succ]
    clear hal hK
    generalize y0.alloc (.cells #[] 49) = y1 at *
    generalize y0.heap.size = LB at *
    refine wpAnyE_twoL (k := 3) (k' := 9) (by kernel_rfl) rfl rfl (fun K hK => ?_) (fun K hK => ?_)
    · refine step_catP (by rfl) _ _ (by rfl) LB LB (.slice a2 x.ps.length c2) x.ps (by rfl) (by rfl) kLc (HP1.out.by hbc) (Nat.le_refl _) (by omega) ?_
      intro aa ca y2 HRc hgr
      have hsW := hbc.size
      have hLW : LB ≤ y2.heap.size := Nat.le_trans (Nat.le_of_lt kLc.lt) hgr.size
      replace kEc : Blk y2 NB #[.int .i64 x.nets, .slice a1 x.ds.length c1, .slice a2 x.ps.length c2] 31 := (hgr.block _ kEc.lt (fun e => by have := Option.some.inj e; omega)).trans kEc
      replace kRc : Blk y2 (NB + 1) #[.int .i64 0, .slice none 0 0, .slice none 0 0] 31 := (hgr.block _ kRc.lt (fun e => by have := Option.some.inj e; omega)).trans kRc
      replace hbc : Below w1.heap.size w1 y2 := hbc.grown hgr hsW (fun q hq => by have := Option.some.inj hq; omega)
      refine hK.out _ _ (fun _ => ⟨kEc, cell_by' hbc q1⟩) ?_
      try simp only [Act.put, List.setIfInBounds_toArray, List.set_cons_zero, List.set_cons_succ]
      clear hK hgr hsW
      refine wpAnyE_oneL (k := 9) (by kernel_rfl) rfl (fun K hK => ?_)
      go_simp
      have hal : Below y2.heap.size y2 (y2.alloc (.cells #[.string nm, .int .i64 (m : Int)] 49)) := (Below.refl _ y2).alloc (Nat.le_refl _) _
      have hz_NN : w1.heap.size ≤ y2.heap.size := hbc.size
      replace kEc := Blk.by hal kEc
      replace kRc := Blk.by hal kRc
      replace HRc := row_same HRc (fun q hq => hal.block q (HRc.lt q hq).2)
      replace hbc := below_on hal hbc
      replace hLW := Nat.le_trans hLW hal.size
      have kNc : Blk (y2.alloc (.cells #[.string nm, .int .i64 (m : Int)] 49)) y2.heap.size #[.string nm, .int .i64 (m : Int)] 49 := Blk.new _ rfl
      refine hK.out _ _ (fun _ => ⟨kEc, cell_by' hbc q1⟩) ?_
      try simp only [Act.put, List.setIfInBounds_toArray, List.set_cons_zero, List.set_cons_succ]
      clear hal hK
      generalize y2.alloc (.cells #[.string nm, .int .i64 (m : Int)] 49) = y3 at *
      generalize y2.heap.size = NN at *
      refine wpAnyE_oneL (k := 10) (by kernel_rfl) rfl (fun K hK => ?_)
      refine step_oneP (by rfl) _ _ (by rfl) LB NN x.ps.length (.slice aa x.ps.length ca) x.ps ⟨nm, (m : Int)⟩ (by rfl) (by rfl) HRc kNc (by have := hbc.size; omega) (by omega) ?_
      intro ab cb y4 HR2 hgr
      have hown := fun q (hq : (Value.slice aa x.ps.length ca).ownBlock = some q) => (HRc.lt q hq)
      have hsW := hbc.size
      replace kEc : Blk y4 NB #[.int .i64 x.nets, .slice a1 x.ds.length c1, .slice a2 x.ps.length c2] 31 := (hgr.block _ kEc.lt (fun e => by have := hown _ e.symm; omega)).trans kEc
      replace kRc : Blk y4 (NB + 1) #[.int .i64 0, .slice none 0 0, .slice none 0 0] 31 := (hgr.block _ kRc.lt (fun e => by have := hown _ e.symm; omega)).trans kRc
      replace hbc : Below w1.heap.size w1 y4 := hbc.grown hgr hsW (fun q hq => by have := hown _ hq; omega)
      refine hK.out _ _ (fun _ => ⟨kEc, cell_by' hbc q1⟩) ?_
      try simp only [Act.put, List.setIfInBounds_toArray, List.set_cons_zero, List.set_cons_succ]
      clear hK hgr hsW hown HRc
      refine wpAnyE_oneL (k := 11) (by kernel_rfl) rfl (fun K hK => ?_)
      go_simp
      refine hK.out _ _ (fun h => absurd rfl h) ?_
      refine wpAnyE_done (by kernel_rfl) ?_ _
      clear hS
      have cE := kEc.cell
      have lE := kEc.lt
      have cR := kRc.cell
      have fR := kRc.free
      have lR := kRc.lt
      have hne : ∀ q, (Value.slice ab (x.ps.length + 1) cb).ownBlock = some q → q ≠ NB + 1 := fun q hq => by have := HR2.lt q hq; omega
      have hbz := below_on hbc hb
      go_wp2
      refine bodyPost_ret (v := .tuple #[.agg #[.int .i64 x.nets, .slice a1 x.ds.length c1, .slice ab (x.ps.length + 1) cb], .bool b]) (by simp [results, Tryd.results33, go_sem, *]) rfl ⟨_, by rw [HLB.out], fun y hy => ?_, ?_, _, _, _, _, _, _, _, rfl⟩
      · obtain rfl := HLY.out y hy
        exact ⟨_, _, rfl, HD.out.by (by ((repeat (first | (with_reducible exact Below.refl _ _) | (with_reducible refine below_drewN ?_ _) | (with_reducible refine Below.drew ?_) | (with_reducible refine below_al ?_ _) | (with_reducible refine below_on (by assumption) ?_) | ((with_reducible refine Below.setCell ?_ ?_ _); rotate_left; focus (first | omega | (simp; done) | (simp; omega))) | (with_reducible assumption))); done)), prow_sl (row_same (row_same (row_same HR2 (fun q hq => Below.heap_setCell _ ⟨NB + 1, 0, none⟩ _ q (hne q hq))) (fun q hq => Below.heap_setCell _ ⟨NB + 1, 1, none⟩ _ q (hne q hq))) (fun q hq => Below.heap_setCell _ ⟨NB + 1, 2, none⟩ _ q (hne q hq))) (by simp)⟩
      · ((repeat (first | (with_reducible exact Below.refl _ _) | (with_reducible refine below_drewN ?_ _) | (with_reducible refine Below.drew ?_) | (with_reducible refine below_al ?_ _) | (with_reducible refine below_on (by assumption) ?_) | ((with_reducible refine Below.setCell ?_ ?_ _); rotate_left; focus (first | omega | (simp; done) | (simp; omega))) | (with_reducible assumption))); done)
    · go_simp
      have hal : Below y1.heap.size y1 (y1.alloc (.cells #[.string nm, .int .i64 (m : Int)] 49)) := (Below.refl _ y1).alloc (Nat.le_refl _) _
      have hz_NN : w1.heap.size ≤ y1.heap.size := hbc.size
      have hLN : LB < y1.heap.size := kLc.lt
      replace kEc := Blk.by hal kEc
      replace kRc := Blk.by hal kRc
      replace kLc := Blk.by hal kLc
      replace hbc := below_on hal hbc
      have kNc : Blk (y1.alloc (.cells #[.string nm, .int .i64 (m : Int)] 49)) y1.heap.size #[.string nm, .int .i64 (m : Int)] 49 := Blk.new _ rfl
      refine hK.out _ _ (fun _ => ⟨kEc, cell_by' hbc q1⟩) ?_
      try simp only [Act.put, List.setIfInBounds_toArray, List.set_cons_zero, List.set_cons_succ]
      clear hal hK
      generalize y1.alloc (.cells #[.string nm, .int .i64 (m : Int)] 49) = y9 at *
      generalize y1.heap.size = NN at *
      refine wpAnyE_oneL (k := 3) (by kernel_rfl) rfl (fun K hK => ?_)
      refine step_catP (by rfl) _ _ (by rfl) LB LB (.slice a2 x.ps.length c2) x.ps (by rfl) (by rfl) kLc (HP1.out.by hbc) (Nat.le_refl _) (by omega) ?_
      intro aa ca y10 HRc hgr
      have hsW := hbc.size
      have hLW : LB ≤ y10.heap.size := Nat.le_trans (Nat.le_of_lt kLc.lt) hgr.size
      replace kNc : Blk y10 NN #[.string nm, .int .i64 (m : Int)] 49 := (hgr.block _ kNc.lt (fun e => by have := Option.some.inj e; omega)).trans kNc
      replace kEc : Blk y10 NB #[.int .i64 x.nets, .slice a1 x.ds.length c1, .slice a2 x.ps.length c2] 31 := (hgr.block _ kEc.lt (fun e => by have := Option.some.inj e; omega)).trans kEc
      replace kRc : Blk y10 (NB + 1) #[.int .i64 0, .slice none 0 0, .slice none 0 0] 31 := (hgr.block _ kRc.lt (fun e => by have := Option.some.inj e; omega)).trans kRc
      replace hbc : Below w1.heap.size w1 y10 := hbc.grown hgr hsW (fun q hq => by have := Option.some.inj hq; omega)
      refine hK.out _ _ (fun _ => ⟨kEc, cell_by' hbc q1⟩) ?_
      try simp only [Act.put, List.setIfInBounds_toArray, List.set_cons_zero, List.set_cons_succ]
      clear hK hgr hsW
      refine wpAnyE_oneL (k := 10) (by kernel_rfl) rfl (fun K hK => ?_)
      refine step_oneP (by rfl) _ _ (by rfl) LB NN x.ps.length (.slice aa x.ps.length ca) x.ps ⟨nm, (m : Int)⟩ (by rfl) (by rfl) HRc kNc (by have := hbc.size; omega) (by omega) ?_
      intro ab cb y11 HR2 hgr
      have hown := fun q (hq : (Value.slice aa x.ps.length ca).ownBlock = some q) => (HRc.lt q hq)
      have hsW := hbc.size
      replace kEc : Blk y11 NB #[.int .i64 x.nets, .slice a1 x.ds.length c1, .slice a2 x.ps.length c2] 31 := (hgr.block _ kEc.lt (fun e => by have := hown _ e.symm; omega)).trans kEc
      replace kRc : Blk y11 (NB + 1) #[.int .i64 0, .slice none 0 0, .slice none 0 0] 31 := (hgr.block _ kRc.lt (fun e => by have := hown _ e.symm; omega)).trans kRc
      replace hbc : Below w1.heap.size w1 y11 := hbc.grown hgr hsW (fun q hq => by have := hown _ hq; omega)
      refine hK.out _ _ (fun _ => ⟨kEc, cell_by' hbc q1⟩) ?_
      try simp only [Act.put, List.setIfInBounds_toArray, List.set_cons_zero, List.set_cons_succ]
      clear hK hgr hsW hown HRc
      refine wpAnyE_oneL (k := 11) (by kernel_rfl) rfl (fun K hK => ?_)
      go_simp
      refine hK.out _ _ (fun h => absurd rfl h) ?_
      refine wpAnyE_done (by kernel_rfl) ?_ _
      clear hS
      have cE := kEc.cell
      have lE := kEc.lt
      have cR := kRc.cell
      have fR := kRc.free
      have lR := kRc.lt
      have hne : ∀ q, (Value.slice ab (x.ps.length + 1) cb).ownBlock = some q → q ≠ NB + 1 := fun q hq => by have := HR2.lt q hq; omega
      have hbz := below_on hbc hb
      go_wp2
      refine bodyPost_ret (v := .tuple #[.agg #[.int .i64 x.nets, .slice a1 x.ds.length c1, .slice ab (x.ps.length + 1) cb], .bool b]) (by simp [results, Tryd.results33, go_sem, *]) rfl ⟨_, by rw [HLB.out], fun y hy => ?_, ?_, _, _, _, _, _, _, _, rfl⟩
      · obtain rfl := HLY.out y hy
        exact ⟨_, _, rfl, HD.out.by (by ((repeat (first | (with_reducible exact Below.refl _ _) | (with_reducible refine below_drewN ?_ _) | (with_reducible refine Below.drew ?_) | (with_reducible refine below_al ?_ _) | (with_reducible refine below_on (by assumption) ?_) | ((with_reducible refine Below.setCell ?_ ?_ _); rotate_left; focus (first | omega | (simp; done) | (simp; omega))) | (with_reducible assumption))); done)), prow_sl (row_same (row_same (row_same HR2 (fun q hq => Below.heap_setCell _ ⟨NB + 1, 0, none⟩ _ q (hne q hq))) (fun q hq => Below.heap_setCell _ ⟨NB + 1, 1, none⟩ _ q (hne q hq))) (fun q hq => Below.heap_setCell _ ⟨NB + 1, 2, none⟩ _ q (hne q hq))) (by simp)⟩
      · ((repeat (first | (with_reducible exact Below.refl _ _) | (with_reducible refine below_drewN ?_ _) | (with_reducible refine Below.drew ?_) | (with_reducible refine below_al ?_ _) | (with_reducible refine below_on (by assumption) ?_) | ((with_reducible refine Below.setCell ?_ ?_ _); rotate_left; focus (first | omega | (simp; done) | (simp; omega))) | (with_reducible assumption))); done)
  · go_simp
    have hal : Below y0.heap.size y0 (y0.alloc (.cells #[.string nm, .int .i64 (m : Int)] 49)) := (Below.refl _ y0).alloc (Nat.le_refl _) _
    have hz_NN : w1.heap.size ≤ y0.heap.size := hbc.size
    replace kEc := Blk.by hal kEc
    replace kRc := Blk.by hal kRc
    replace hbc := below_on hal hbc
    have kNc : Blk (y0.alloc (.cells #[.string nm, .int .i64 (m : Int)] 49)) y0.heap.size #[.string nm, .int .i64 (m : Int)] 49 := Blk.new _ rfl
    refine hK.out _ _ (fun _ => ⟨kEc, cell_by' hbc q1⟩) ?_
    try simp only [Act.put, List.setIfInBounds_toArray, List.set_cons_zero, List.set_cons_succ]
    clear hal hK
    generalize y0.alloc (.cells #[.string nm, .int .i64 (m : Int)] 49) = y16 at *
    generalize y0.heap.size = NN at *
    refine wpAnyE_oneL (k := 0) (by kernel_rfl) rfl (fun K hK => ?_)
    go_simp
    have hal : Below y16.heap.size y16 (y16.alloc (.cells #[] 49)) := (Below.refl _ y16).alloc (Nat.le_refl _) _
    have hz_LB : w1.heap.size ≤ y16.heap.size := hbc.size
    have hNL : NN < y16.heap.size := kNc.lt
    replace kEc := Blk.by hal kEc
    replace kRc := Blk.by hal kRc
    replace kNc := Blk.by hal kNc
    replace hbc := below_on hal hbc
    have kLc : Blk (y16.alloc (.cells #[] 49)) y16.heap.size #[] 49 := Blk.new _ rfl
    refine hK.out _ _ (fun _ => ⟨kEc, cell_by' hbc q1⟩) ?_
    try simp only [Act.put, List.setIfInBounds_toArray, List.set_cons_zero, List.set_cons_succ]
    clear hal hK
    generalize y16.alloc (.cells #[] 49) = y17 at *
    generalize y16.heap.size = LB at *
    refine wpAnyE_oneL (k := 3) (by kernel_rfl) rfl (fun K hK => ?_)
    refine step_catP (by rfl) _ _ (by rfl) LB LB (.slice a2 x.ps.length c2) x.ps (by rfl) (by rfl) kLc (HP1.out.by hbc) (Nat.le_refl _) (by omega) ?_
    intro aa ca y18 HRc hgr
    have hsW := hbc.size
    have hLW : LB ≤ y18.heap.size := Nat.le_trans (Nat.le_of_lt kLc.lt) hgr.size
    replace kNc : Blk y18 NN #[.string nm, .int .i64 (m : Int)] 49 := (hgr.block _ kNc.lt (fun e => by have := Option.some.inj e; omega)).trans kNc
    replace kEc : Blk y18 NB #[.int .i64 x.nets, .slice a1 x.ds.length c1, .slice a2 x.ps.length c2] 31 := (hgr.block _ kEc.lt (fun e => by have := Option.some.inj e; omega)).trans kEc
    replace kRc : Blk y18 (NB + 1) #[.int .i64 0, .slice none 0 0, .slice none 0 0] 31 := (hgr.block _ kRc.lt (fun e => by have := Option.some.inj e; omega)).trans kRc
    replace hbc : Below w1.heap.size w1 y18 := hbc.grown hgr hsW (fun q hq => by have := Option.some.inj hq; omega)
    refine hK.out _ _ (fun _ => ⟨kEc, cell_by' hbc q1⟩) ?_
    try simp only [Act.put, List.setIfInBounds_toArray, List.set_cons_zero, List.set_cons_succ]
    clear hK hgr hsW
    refine wpAnyE_oneL (k := 10) (by kernel_rfl) rfl (fun K hK => ?_)
    refine step_oneP (by rfl) _ _ (by rfl) LB NN x.ps.length (.slice aa x.ps.length ca) x.ps ⟨nm, (m : Int)⟩ (by rfl) (by rfl) HRc kNc (by have := hbc.size; omega) (by omega) ?_
    intro ab cb y19 HR2 hgr
    have hown := fun q (hq : (Value.slice aa x.ps.length ca).ownBlock = some q) => (HRc.lt q hq)
    have hsW := hbc.size
    replace kEc : Blk y19 NB #[.int .i64 x.nets, .slice a1 x.ds.length c1, .slice a2 x.ps.length c2] 31 := (hgr.block _ kEc.lt (fun e => by have := hown _ e.symm; omega)).trans kEc
    replace kRc : Blk y19 (NB + 1) #[.int .i64 0, .slice none 0 0, .slice none 0 0] 31 := (hgr.block _ kRc.lt (fun e => by have := hown _ e.symm; omega)).trans kRc
    replace hbc : Below w1.heap.size w1 y19 := hbc.grown hgr hsW (fun q hq => by have := hown _ hq; omega)
    refine hK.out _ _ (fun _ => ⟨kEc, cell_by' hbc q1⟩) ?_
    try simp only [Act.put, List.setIfInBounds_toArray, List.set_cons_zero, List.set_cons_succ]
    clear hK hgr hsW hown HRc
    refine wpAnyE_oneL (k := 11) (by kernel_rfl) rfl (fun K hK => ?_)
    go_simp
    refine hK.out _ _ (fun h => absurd rfl h) ?_
    refine wpAnyE_done (by kernel_rfl) ?_ _
    clear hS
    have cE := kEc.cell
    have lE := kEc.lt
    have cR := kRc.cell
    have fR := kRc.free
    have lR := kRc.lt
    have hne : ∀ q, (Value.slice ab (x.ps.length + 1) cb).ownBlock = some q → q ≠ NB + 1 := fun q hq => by have := HR2.lt q hq; omega
    have hbz := below_on hbc hb
    go_wp2
    refine bodyPost_ret (v := .tuple #[.agg #[.int .i64 x.nets, .slice a1 x.ds.length c1, .slice ab (x.ps.length + 1) cb], .bool b]) (by simp [results, Tryd.results33, go_sem, *]) rfl ⟨_, by rw [HLB.out], fun y hy => ?_, ?_, _, _, _, _, _, _, _, rfl⟩
    · obtain rfl := HLY.out y hy
      exact ⟨_, _, rfl, HD.out.by (by ((repeat (first | (with_reducible exact Below.refl _ _) | (with_reducible refine below_drewN ?_ _) | (with_reducible refine Below.drew ?_) | (with_reducible refine below_al ?_ _) | (with_reducible refine below_on (by assumption) ?_) | ((with_reducible refine Below.setCell ?_ ?_ _); rotate_left; focus (first | omega | (simp; done) | (simp; omega))) | (with_reducible assumption))); done)), prow_sl (row_same (row_same (row_same HR2 (fun q hq => Below.heap_setCell _ ⟨NB + 1, 0, none⟩ _ q (hne q hq))) (fun q hq => Below.heap_setCell _ ⟨NB + 1, 1, none⟩ _ q (hne q hq))) (fun q hq => Below.heap_setCell _ ⟨NB + 1, 2, none⟩ _ q (hne q hq))) (by simp)⟩
    · ((repeat (first | (with_reducible exact Below.refl _ _) | (with_reducible refine below_drewN ?_ _) | (with_reducible refine Below.drew ?_) | (with_reducible refine below_al ?_ _) | (with_reducible refine below_on (by assumption) ?_) | ((with_reducible refine Below.setCell ?_ ?_ _); rotate_left; focus (first | omega | (simp; done) | (simp; omega))) | (with_reducible assumption))); done)

theorem kind_cases (s : ByteArray) : (kindL s.data.toList = none ∧ kindZ s = -1) ∨ ∃ k, kindL s.data.toList = some k ∧ kindZ s = (k : Int) ∧ (k = 0 ∨ k = 1 ∨ k = 2) := by
  unfold kindZ
  cases h : kindL s.data.toList with
  | none => exact .inl ⟨rfl, rfl⟩
  | some k => exact .inr ⟨k, rfl, rfl, by have := (kindL_word h).2; omega⟩
set_option maxRecDepth 100000 in
set_option maxHeartbeats 2000000 in
theorem line_d1 (x : Nl) (v : Value) (a0 : Option Addr) (n c : Nat) (s0 : ByteArray) (r : List ByteArray) (w : World) (h : NlV w v x) (hw : StrSl w (.slice a0 n c) (s0 :: r)) (hk : ¬ s0.data.toList = wPortL) (hs : ∀ y ∈ r, y.size ≤ 1048576) (hr : r.length ≤ 1048577) (hkz : kindL s0.data.toList = none) :
    Calls Tryd.prog 33 #[v, .slice a0 n c] w fun e w' => ∃ v', e = .returned (.tuple #[v', .bool (lineL false x (lsts (s0 :: r))).isSome]) ∧ (∀ y, lineL false x (lsts (s0 :: r)) = some y → NlV w' v' y) ∧ Below w.heap.size w w' ∧ ShNl v' := by
  have HL : Hid (lineL false x (lsts (s0 :: r)) = none) := Lib.hid (by
    unfold lsts lineL
    simp only [List.map_cons, hk, Bool.false_eq_true, if_false, hkz])
  obtain ⟨g, o, rfl, hn0⟩ := str_at hw
  obtain ⟨s1, s2, rfl, hd, hp⟩ := h
  obtain ⟨a1, c1, rfl⟩ := hd.sized
  obtain ⟨a2, c2, rfl⟩ := hp.sized
  obtain ⟨k, hk0⟩ : ∃ k, r.length = k := ⟨_, rfl⟩
  rw [hk0] at hn0
  subst hn0
  obtain ⟨-, hc1, hwt⟩ := hw.tail
  rw [show k + 1 - 1 = k by omega] at hwt
  have q0 : w.cell? ⟨g, o, none⟩ = some (.string s0) := str_cell hw 0 s0 rfl
  have e0 : (s0.toList == ([112, 111, 114, 116] : List UInt8)) = false := by rw [port_word, decide_eq_false hk]
  have e1 : (0 : Int) < (((k + 1 : Nat)) : Int) := by omega
  have e2 : k + 1 ≤ c := by
    rcases hwt with ⟨_, _, h1, h2⟩ | ⟨_, _, _, h1, h2, _⟩
    · simp only [Value.slice.injEq] at h1; omega
    · simp only [Value.slice.injEq] at h1; omega
  have lg := lt_of_cell q0
  dsimp only at lg
  have q0x : ∀ X Y Z : Obj, (((w.alloc X).alloc Y).alloc Z).cell? ⟨g, o, none⟩ = some (.string s0) := fun X Y Z => cell_by' (below_al (below_al (below_al (Below.refl _ w) X) Y) Z) q0
  have hcase : (c - 1 = 0 ∧ StrSl w (.slice (some ⟨g, o, none⟩) k 0) r) ∨ (¬ c - 1 = 0 ∧ StrSl w (.slice (some ⟨g, o + 1, none⟩) k (c - 1)) r) := by
    by_cases h : c - 1 = 0
    · refine .inl ⟨h, .inl ⟨some ⟨g, o, none⟩, 0, ?_, ?_⟩⟩
      · rw [show k = 0 by omega]
      · exact List.eq_nil_of_length_eq_zero (by omega)
    · exact .inr ⟨h, hwt⟩
  have HNU := Lib.hid (fun v w h => l27Numbers_any v r w h hs (by omega))
  have HFI := Lib.hid (fun b w h => l16Find_any b s0 w h)
  obtain ⟨K, hK⟩ : ∃ K, kindZ s0 = K := ⟨_, rfl⟩
  rw [hK] at HFI
  have HD := Lib.hid hd
  have HP := Lib.hid hp
  have HK0 := Lib.hid hk0
  clear hd hp hw hwt hk0
  obtain rfl : K = -1 := by
    rw [← hK]; unfold kindZ; rw [hkz]
  clear hK hk hkz
  rcases hcase with ⟨hcz, hwt⟩ | ⟨hcz, hwt⟩
  all_goals
    have HWT := Lib.hid hwt
    clear hwt
    go_enter Tryd.func33, Tryd.ntmps33
    go_wp2_with fail
    refine (HFI.out (w.heap.size + 1 + 1) _ ?_).mono ?_
    · exact Blk.new _ (by simp)
    rintro e w1 ⟨rfl, hb1⟩
    have hz1 := hb1.size
    simp only [World.size_alloc] at hz1
    have hb : Below w.heap.size w w1 := (by ((repeat (first | (with_reducible exact Below.refl _ _) | (with_reducible refine below_drewN ?_ _) | (with_reducible refine Below.drew ?_) | (with_reducible refine below_al ?_ _) | (with_reducible refine below_on (by assumption) ?_) | ((with_reducible refine Below.setCell ?_ ?_ _); rotate_left; focus (first | omega | (simp; done) | (simp; omega))) | (with_reducible assumption))); done))
    have kN : Blk w1 w.heap.size #[.int .i64 x.nets, .slice a1 x.ds.length c1, .slice a2 x.ps.length c2] 31 := Blk.by hb1 (((Blk.new _ rfl).past _).past _)
    have kR : Blk w1 (w.heap.size + 1) #[.int .i64 0, .slice none 0 0, .slice none 0 0] 31 := Blk.by hb1 ((Blk.new _ (by simp)).past _)
    clear hb1 q0 lg e0
    go_wp2_with fail
    refine (HNU.out _ _ (HWT.out.by hb)).mono ?_
    rintro e w2 ⟨v2, rfl, hB2, hb2⟩
    obtain ⟨a5, c5, rfl⟩ := hB2.sized
    replace kN := Blk.by hb2 kN
    replace kR := Blk.by hb2 kR
    have hbz := below_on hb2 hb
    clear hb hb2 hz1
    have cN := kN.cell
    have cR := kR.cell
    have fR := kR.free
    have lR := kR.lt
    have lN := kN.lt
    go_wp2
    refine bodyPost_ret (v := .tuple #[.agg #[.int .i64 x.nets, .slice a1 x.ds.length c1, .slice a2 x.ps.length c2], .bool false]) (by simp [results, Tryd.results33, go_sem, *]) rfl ⟨_, by rw [HL.out]; rfl, fun y hy => (by rw [HL.out] at hy; cases hy), (by ((repeat (first | (with_reducible exact Below.refl _ _) | (with_reducible refine below_drewN ?_ _) | (with_reducible refine Below.drew ?_) | (with_reducible refine below_al ?_ _) | (with_reducible refine below_on (by assumption) ?_) | ((with_reducible refine Below.setCell ?_ ?_ _); rotate_left; focus (first | omega | (simp; done) | (simp; omega))) | (with_reducible assumption))); done)), _, _, _, _, _, _, _, rfl⟩

set_option maxRecDepth 100000 in
set_option maxHeartbeats 4000000 in
theorem line_d2 (x : Nl) (v : Value) (a0 : Option Addr) (n c : Nat) (s0 : ByteArray) (r : List ByteArray) (w : World) (h : NlV w v x) (hw : StrSl w (.slice a0 n c) (s0 :: r)) (kk : Nat) (hk : ¬ s0.data.toList = wPortL) (hs : ∀ y ∈ r, y.size ≤ 1048576) (hr : r.length ≤ 1048577) (hkl : kindL s0.data.toList = some kk) (hn : numsL (lsts r) = none) :
    Calls Tryd.prog 33 #[v, .slice a0 n c] w fun e w' => ∃ v', e = .returned (.tuple #[v', .bool (lineL false x (lsts (s0 :: r))).isSome]) ∧ (∀ y, lineL false x (lsts (s0 :: r)) = some y → NlV w' v' y) ∧ Below w.heap.size w w' ∧ ShNl v' := by
  have hkz : kindZ s0 = (kk : Int) := by unfold kindZ; rw [hkl]
  have hk3 : kk = 0 ∨ kk = 1 ∨ kk = 2 := by have := (kindL_word hkl).2; omega
  have HL : Hid (lineL false x (lsts (s0 :: r)) = none) := Lib.hid (by
    unfold lsts lineL
    simp only [List.map_cons, hk, Bool.false_eq_true, if_false, hkl]
    rw [show numsL (r.map fun b : ByteArray => b.data.toList) = none from hn])
  obtain ⟨g, o, rfl, hn0⟩ := str_at hw
  obtain ⟨s1, s2, rfl, hd, hp⟩ := h
  obtain ⟨a1, c1, rfl⟩ := hd.sized
  obtain ⟨a2, c2, rfl⟩ := hp.sized
  obtain ⟨k, hk0⟩ : ∃ k, r.length = k := ⟨_, rfl⟩
  rw [hk0] at hn0
  subst hn0
  obtain ⟨-, hc1, hwt⟩ := hw.tail
  rw [show k + 1 - 1 = k by omega] at hwt
  have q0 : w.cell? ⟨g, o, none⟩ = some (.string s0) := str_cell hw 0 s0 rfl
  have e0 : (s0.toList == ([112, 111, 114, 116] : List UInt8)) = false := by rw [port_word, decide_eq_false hk]
  have e1 : (0 : Int) < (((k + 1 : Nat)) : Int) := by omega
  have e2 : k + 1 ≤ c := by
    rcases hwt with ⟨_, _, h1, h2⟩ | ⟨_, _, _, h1, h2, _⟩
    · simp only [Value.slice.injEq] at h1; omega
    · simp only [Value.slice.injEq] at h1; omega
  have lg := lt_of_cell q0
  dsimp only at lg
  have q0x : ∀ X Y Z : Obj, (((w.alloc X).alloc Y).alloc Z).cell? ⟨g, o, none⟩ = some (.string s0) := fun X Y Z => cell_by' (below_al (below_al (below_al (Below.refl _ w) X) Y) Z) q0
  have hcase : (c - 1 = 0 ∧ StrSl w (.slice (some ⟨g, o, none⟩) k 0) r) ∨ (¬ c - 1 = 0 ∧ StrSl w (.slice (some ⟨g, o + 1, none⟩) k (c - 1)) r) := by
    by_cases h : c - 1 = 0
    · refine .inl ⟨h, .inl ⟨some ⟨g, o, none⟩, 0, ?_, ?_⟩⟩
      · rw [show k = 0 by omega]
      · exact List.eq_nil_of_length_eq_zero (by omega)
    · exact .inr ⟨h, hwt⟩
  have HNU := Lib.hid (fun v w h => l27Numbers_any v r w h hs (by omega))
  have HFI := Lib.hid (fun b w h => l16Find_any b s0 w h)
  obtain ⟨K, hK⟩ : ∃ K, kindZ s0 = K := ⟨_, rfl⟩
  rw [hK] at HFI
  have HD := Lib.hid hd
  have HP := Lib.hid hp
  have HK0 := Lib.hid hk0
  clear hd hp hw hwt hk0
  simp only [hn, Option.isSome_none, Option.getD_none] at HNU
  clear hn
  obtain rfl : K = (kk : Int) := by rw [← hK, hkz]
  clear hK hk hkz hkl
  rcases hk3 with rfl | rfl | rfl
  all_goals
    skip
    rcases hcase with ⟨hcz, hwt⟩ | ⟨hcz, hwt⟩
    all_goals
      have HWT := Lib.hid hwt
      clear hwt
      go_enter Tryd.func33, Tryd.ntmps33
      go_wp2_with fail
      refine (HFI.out (w.heap.size + 1 + 1) _ ?_).mono ?_
      · exact Blk.new _ (by simp)
      rintro e w1 ⟨rfl, hb1⟩
      have hz1 := hb1.size
      simp only [World.size_alloc] at hz1
      have hb : Below w.heap.size w w1 := (by ((repeat (first | (with_reducible exact Below.refl _ _) | (with_reducible refine below_drewN ?_ _) | (with_reducible refine Below.drew ?_) | (with_reducible refine below_al ?_ _) | (with_reducible refine below_on (by assumption) ?_) | ((with_reducible refine Below.setCell ?_ ?_ _); rotate_left; focus (first | omega | (simp; done) | (simp; omega))) | (with_reducible assumption))); done))
      have kN : Blk w1 w.heap.size #[.int .i64 x.nets, .slice a1 x.ds.length c1, .slice a2 x.ps.length c2] 31 := Blk.by hb1 (((Blk.new _ rfl).past _).past _)
      have kR : Blk w1 (w.heap.size + 1) #[.int .i64 0, .slice none 0 0, .slice none 0 0] 31 := Blk.by hb1 ((Blk.new _ (by simp)).past _)
      clear hb1 q0 lg e0
      go_wp2_with fail
      refine (HNU.out _ _ (HWT.out.by hb)).mono ?_
      rintro e w2 ⟨v2, rfl, hB2, hb2⟩
      obtain ⟨a5, c5, rfl⟩ := hB2.sized
      (try rw [HZ.out])
      replace kN := Blk.by hb2 kN
      replace kR := Blk.by hb2 kR
      have hbz := below_on hb2 hb
      clear hb hb2 hz1
      have cN := kN.cell
      have cR := kR.cell
      have fR := kR.free
      have lR := kR.lt
      have lN := kN.lt
      go_wp2
      refine bodyPost_ret (v := .tuple #[.agg #[.int .i64 x.nets, .slice a1 x.ds.length c1, .slice a2 x.ps.length c2], .bool false]) (by simp [results, Tryd.results33, go_sem, *]) rfl ⟨_, by rw [HL.out]; rfl, fun y hy => (by rw [HL.out] at hy; cases hy), (by ((repeat (first | (with_reducible exact Below.refl _ _) | (with_reducible refine below_drewN ?_ _) | (with_reducible refine Below.drew ?_) | (with_reducible refine below_al ?_ _) | (with_reducible refine below_on (by assumption) ?_) | ((with_reducible refine Below.setCell ?_ ?_ _); rotate_left; focus (first | omega | (simp; done) | (simp; omega))) | (with_reducible assumption))); done)), _, _, _, _, _, _, _, rfl⟩

set_option maxRecDepth 100000 in
set_option maxHeartbeats 4000000 in
theorem line_d3 (x : Nl) (v : Value) (a0 : Option Addr) (n c : Nat) (s0 : ByteArray) (r : List ByteArray) (w : World) (h : NlV w v x) (hw : StrSl w (.slice a0 n c) (s0 :: r)) (kk : Nat) (hk : ¬ s0.data.toList = wPortL) (hs : ∀ y ∈ r, y.size ≤ 1048576) (hr : r.length ≤ 1048577) (hkl : kindL s0.data.toList = some kk) (zs : List Int) (hn : numsL (lsts r) = some zs) (hz : zs.length ≠ pinN kk + 2) :
    Calls Tryd.prog 33 #[v, .slice a0 n c] w fun e w' => ∃ v', e = .returned (.tuple #[v', .bool (lineL false x (lsts (s0 :: r))).isSome]) ∧ (∀ y, lineL false x (lsts (s0 :: r)) = some y → NlV w' v' y) ∧ Below w.heap.size w w' ∧ ShNl v' := by
  have hkz : kindZ s0 = (kk : Int) := by unfold kindZ; rw [hkl]
  have hk3 : kk = 0 ∨ kk = 1 ∨ kk = 2 := by have := (kindL_word hkl).2; omega
  have HL : Hid (lineL false x (lsts (s0 :: r)) = none) := Lib.hid (by
    unfold lsts lineL
    simp only [List.map_cons, hk, Bool.false_eq_true, if_false, hkl]
    rw [show numsL (r.map fun b : ByteArray => b.data.toList) = some zs from hn]
    dsimp only
    rw [if_neg hz])
  obtain ⟨g, o, rfl, hn0⟩ := str_at hw
  obtain ⟨s1, s2, rfl, hd, hp⟩ := h
  obtain ⟨a1, c1, rfl⟩ := hd.sized
  obtain ⟨a2, c2, rfl⟩ := hp.sized
  obtain ⟨k, hk0⟩ : ∃ k, r.length = k := ⟨_, rfl⟩
  rw [hk0] at hn0
  subst hn0
  obtain ⟨-, hc1, hwt⟩ := hw.tail
  rw [show k + 1 - 1 = k by omega] at hwt
  have q0 : w.cell? ⟨g, o, none⟩ = some (.string s0) := str_cell hw 0 s0 rfl
  have e0 : (s0.toList == ([112, 111, 114, 116] : List UInt8)) = false := by rw [port_word, decide_eq_false hk]
  have e1 : (0 : Int) < (((k + 1 : Nat)) : Int) := by omega
  have e2 : k + 1 ≤ c := by
    rcases hwt with ⟨_, _, h1, h2⟩ | ⟨_, _, _, h1, h2, _⟩
    · simp only [Value.slice.injEq] at h1; omega
    · simp only [Value.slice.injEq] at h1; omega
  have lg := lt_of_cell q0
  dsimp only at lg
  have q0x : ∀ X Y Z : Obj, (((w.alloc X).alloc Y).alloc Z).cell? ⟨g, o, none⟩ = some (.string s0) := fun X Y Z => cell_by' (below_al (below_al (below_al (Below.refl _ w) X) Y) Z) q0
  have hcase : (c - 1 = 0 ∧ StrSl w (.slice (some ⟨g, o, none⟩) k 0) r) ∨ (¬ c - 1 = 0 ∧ StrSl w (.slice (some ⟨g, o + 1, none⟩) k (c - 1)) r) := by
    by_cases h : c - 1 = 0
    · refine .inl ⟨h, .inl ⟨some ⟨g, o, none⟩, 0, ?_, ?_⟩⟩
      · rw [show k = 0 by omega]
      · exact List.eq_nil_of_length_eq_zero (by omega)
    · exact .inr ⟨h, hwt⟩
  have HNU := Lib.hid (fun v w h => l27Numbers_any v r w h hs (by omega))
  have HFI := Lib.hid (fun b w h => l16Find_any b s0 w h)
  obtain ⟨K, hK⟩ : ∃ K, kindZ s0 = K := ⟨_, rfl⟩
  rw [hK] at HFI
  have HD := Lib.hid hd
  have HP := Lib.hid hp
  have HK0 := Lib.hid hk0
  clear hd hp hw hwt hk0
  simp only [hn, Option.isSome_some, Option.getD_some] at HNU
  obtain ⟨Z, hZ⟩ : ∃ Z, zs.length = Z := ⟨_, rfl⟩
  have HZ := Lib.hid hZ
  have hzz : Hid ((kk = 2 → ((Z : Int) != 4) = true) ∧ (kk ≠ 2 → ((Z : Int) != 5) = true)) := Lib.hid (by
    rw [hZ] at hz
    refine ⟨fun h => ?_, fun h => ?_⟩
    · subst h; simp [pinN] at hz ⊢; omega
    · unfold pinN at hz; rw [if_neg h] at hz; simp; omega)
  clear hn hz hZ
  obtain rfl : K = (kk : Int) := by rw [← hK, hkz]
  clear hK hk hkz hkl
  rcases hk3 with rfl | rfl | rfl
  all_goals
    have e10 : ((Z : Int) != 5) = true ∨ ((Z : Int) != 4) = true := by first | exact .inl (hzz.out.2 (by decide)) | exact .inr (hzz.out.1 rfl)
    first
      | (have e11 := hzz.out.2 (by decide))
      | (have e11 := hzz.out.1 rfl)
    clear e10
    rcases hcase with ⟨hcz, hwt⟩ | ⟨hcz, hwt⟩
    all_goals
      have HWT := Lib.hid hwt
      clear hwt
      go_enter Tryd.func33, Tryd.ntmps33
      go_wp2_with fail
      refine (HFI.out (w.heap.size + 1 + 1) _ ?_).mono ?_
      · exact Blk.new _ (by simp)
      rintro e w1 ⟨rfl, hb1⟩
      have hz1 := hb1.size
      simp only [World.size_alloc] at hz1
      have hb : Below w.heap.size w w1 := (by ((repeat (first | (with_reducible exact Below.refl _ _) | (with_reducible refine below_drewN ?_ _) | (with_reducible refine Below.drew ?_) | (with_reducible refine below_al ?_ _) | (with_reducible refine below_on (by assumption) ?_) | ((with_reducible refine Below.setCell ?_ ?_ _); rotate_left; focus (first | omega | (simp; done) | (simp; omega))) | (with_reducible assumption))); done))
      have kN : Blk w1 w.heap.size #[.int .i64 x.nets, .slice a1 x.ds.length c1, .slice a2 x.ps.length c2] 31 := Blk.by hb1 (((Blk.new _ rfl).past _).past _)
      have kR : Blk w1 (w.heap.size + 1) #[.int .i64 0, .slice none 0 0, .slice none 0 0] 31 := Blk.by hb1 ((Blk.new _ (by simp)).past _)
      clear hb1 q0 lg e0
      go_wp2_with fail
      refine (HNU.out _ _ (HWT.out.by hb)).mono ?_
      rintro e w2 ⟨v2, rfl, hB2, hb2⟩
      obtain ⟨a5, c5, rfl⟩ := hB2.sized
      (try rw [HZ.out])
      replace kN := Blk.by hb2 kN
      replace kR := Blk.by hb2 kR
      have hbz := below_on hb2 hb
      clear hb hb2 hz1
      have cN := kN.cell
      have cR := kR.cell
      have fR := kR.free
      have lR := kR.lt
      have lN := kN.lt
      go_wp2
      refine bodyPost_ret (v := .tuple #[.agg #[.int .i64 x.nets, .slice a1 x.ds.length c1, .slice a2 x.ps.length c2], .bool false]) (by simp [results, Tryd.results33, go_sem, *]) rfl ⟨_, by rw [HL.out]; rfl, fun y hy => (by rw [HL.out] at hy; cases hy), (by ((repeat (first | (with_reducible exact Below.refl _ _) | (with_reducible refine below_drewN ?_ _) | (with_reducible refine Below.drew ?_) | (with_reducible refine below_al ?_ _) | (with_reducible refine below_on (by assumption) ?_) | ((with_reducible refine Below.setCell ?_ ?_ _); rotate_left; focus (first | omega | (simp; done) | (simp; omega))) | (with_reducible assumption))); done)), _, _, _, _, _, _, _, rfl⟩
end Go.Proofs.YtglddnkpccgchaaDoor
