/- The reference's l27Line at a device that is taken. -/
import Derived.Test.YtglddnkpccgchaaDoorSpecLn
import Derived.Test.YtglddnkpccgchaaDoorStrK
namespace Go.Proofs.YtglddnkpccgchaaDoor
open Go.RowKit
set_option linter.unusedVariables false
set_option linter.unusedSimpArgs false

theorem pins_of {w : World} {G c n m : Nat} {cs : Array Value} {zs : List Int} (h : Blk w G cs 2) (hc : ∀ (i : Nat) z, zs[i]? = some z → cs[i]? = some (.int .i64 z)) (hl : zs.length = n) (hm : c ≤ maxLen) (hn : m ≤ n := by decide) (hnc : m ≤ c := by omega) : IntSl w (.slice (some ⟨G, 0, none⟩) m c) (zs.take m) :=
  .inr ⟨G, 0, c, by rw [List.length_take, hl, Nat.min_eq_left hn], by rw [List.length_take]; omega, hm, fun i y hy => by
    rw [Nat.zero_add, h.cell]
    exact hc i y (by
      have := (List.getElem?_eq_some_iff.1 hy).1
      rw [List.length_take] at this
      rw [List.getElem?_take_of_lt (by omega)] at hy
      exact hy)⟩
/-- append(row, d): one device more, its pins wherever they lie. -/
theorem step_oneD2 {ops : Array Oper} {o : Oper} {a : Act} {w : World} {K : Act → World → Prop} {Q : Exit → Act → World → Prop} {E : Prop} (hgd : o.guard = none) (s x : Operand)
    (ho : o.op = .call { callee := .builtin .append, args := #[s, x], argTypes := #[28, 28] })
    (lo nb n : Nat) (v pv : Value) (xs : List Value) (k wd ln : Int) (hs : a.eval s = v) (hx : a.eval x = .slice (some ⟨nb, 0, none⟩) 1 1) (hr : w.ownsRow lo 52 4 v n xs) (hp : pv.oneCell' = true)
    (hb : Blk w nb #[.int .i64 k, pv, .int .i64 wd, .int .i64 ln] 52) (hlo : lo ≤ w.heap.size) (hn : n ≤ 100)
    (hK : ∀ a' c' w', w'.ownsRow lo 52 4 (.slice a' (n + 1) c') (n + 1) (xs ++ [.int .i64 k, pv, .int .i64 wd, .int .i64 ln]) → w.grownBy w' v.ownBlock → K (a.put o.dst (.slice a' (n + 1) c')) w') :
    if Region.wanted o (yielded ops a.tmps) = true then Oper.wp Tryd.prog o a w K Q else E := by
  refine step_appT hgd s x ho lo v n xs hs hr ⟨nb, 0, none⟩ 1 1 [.int .i64 k, pv, .int .i64 wd, .int .i64 ln] hx rfl (World.news_of_block (cs := #[.int .i64 k, pv, .int .i64 wd, .int .i64 ln]) hb) (fun u hu => by
    simp at hu
    rcases hu with rfl | rfl | rfl | rfl
    · rfl
    · exact hp
    · rfl
    · rfl) (by decide) (by omega) hlo ?_
  intro g c w' hr' hg _
  exact hK _ _ w' hr' hg
theorem row_sl2 {w0 w : World} {lo n : Nat} {v pv : Value} {xs : List Value} {ds : List Dv} {d : Dv} (h : w.ownsRow lo 52 4 v (n + 1) (xs ++ [.int .i64 d.kind, pv, .int .i64 d.wd, .int .i64 d.len])) (hl : ds.length = n) (hx : DvL w0 xs ds) (hb : Below w0.heap.size w0 w) (hp : IntSl w pv d.pins) : DvSl w v (ds ++ [d]) := by
  have hx2 : DvL w xs ds := ⟨hx.1, fun i x hxi => by
    obtain ⟨q, u1, u2, u3, u4, u5⟩ := hx.2 i x hxi
    exact ⟨q, u1, u2, u3, u4, u5.by hb⟩⟩
  have hx3 := hx2.push d pv hp
  refine row_sl (w0 := w) (lo := lo) ?_ hx3 (Below.refl _ _)
  rw [List.length_append, List.length_singleton, hl]
  exact h

set_option maxRecDepth 100000 in
set_option maxHeartbeats 8000000 in
theorem line_d4_0 (x : Nl) (v : Value) (a0 : Option Addr) (n c : Nat) (s0 : ByteArray) (r : List ByteArray) (w : World) (h : NlV w v x) (hw : StrSl w (.slice a0 n c) (s0 :: r)) (zs : List Int) (WD LN : Int) (hk : ¬ s0.data.toList = wPortL) (hs : ∀ y ∈ r, y.size ≤ 1048576) (hr : r.length ≤ 1048577) (hkl : kindL s0.data.toList = some 0)
    (hn : numsL (lsts r) = some zs) (hz : zs.length = 5) (hwd : zs[3]? = some WD) (hln : zs[4]? = some LN) (hd50 : x.ds.length ≤ 50) :
    Calls Tryd.prog 33 #[v, .slice a0 n c] w fun e w' => ∃ v', e = .returned (.tuple #[v', .bool (lineL false x (lsts (s0 :: r))).isSome]) ∧ (∀ y, lineL false x (lsts (s0 :: r)) = some y → NlV w' v' y) ∧ Below w.heap.size w w' ∧ ShNl v' := by
  have hkz : kindZ s0 = 0 := by unfold kindZ; rw [hkl]; rfl
  have HL : Hid (lineL false x (lsts (s0 :: r)) = some { x with ds := x.ds ++ [⟨0, zs.take 3, WD, LN⟩] }) := Lib.hid (by
    unfold lsts lineL
    simp only [List.map_cons, hk, Bool.false_eq_true, if_false, hkl]
    rw [show numsL (r.map fun b : ByteArray => b.data.toList) = some zs from hn]
    dsimp only
    rw [show pinN 0 = 3 from rfl, if_pos hz, hwd, hln]
    rfl)
  have hrl : r.length = 5 := by have := (numsL_words hn).1; rw [hz] at this; simpa [lsts] using this.symm
  obtain ⟨g, o, rfl, hn0⟩ := str_at hw
  obtain ⟨s1, s2, rfl, hd, hp⟩ := h
  obtain ⟨a1, c1, rfl⟩ := hd.sized
  obtain ⟨a2, c2, rfl⟩ := hp.sized
  obtain ⟨k, hk0⟩ : ∃ k, r.length = k := ⟨_, rfl⟩
  rw [hk0] at hn0
  subst hn0
  obtain ⟨-, hc1, hwt⟩ := hw.tail
  rw [show k + 1 - 1 = k by omega] at hwt
  have q0 : w.cell? ⟨g, o, none⟩ = some (.string s0) := str_cell hw 0 s0 rfl
  have e0 : (s0.toList == ([112, 111, 114, 116] : List UInt8)) = false := by rw [port_word, decide_eq_false hk]
  have e1 : (0 : Int) < (((k + 1 : Nat)) : Int) := by omega
  have e2 : k + 1 ≤ c := by
    rcases hwt with ⟨_, _, h1, h2⟩ | ⟨_, _, _, h1, h2, _⟩
    · simp only [Value.slice.injEq] at h1; omega
    · simp only [Value.slice.injEq] at h1; omega
  have lg := lt_of_cell q0
  dsimp only at lg
  have q0x : ∀ X Y Z : Obj, (((w.alloc X).alloc Y).alloc Z).cell? ⟨g, o, none⟩ = some (.string s0) := fun X Y Z => cell_by' (below_al (below_al (below_al (Below.refl _ w) X) Y) Z) q0
  have hcase : (c - 1 = 0 ∧ StrSl w (.slice (some ⟨g, o, none⟩) k 0) r) ∨ (¬ c - 1 = 0 ∧ StrSl w (.slice (some ⟨g, o + 1, none⟩) k (c - 1)) r) := by
    by_cases h : c - 1 = 0
    · refine .inl ⟨h, .inl ⟨some ⟨g, o, none⟩, 0, ?_, ?_⟩⟩
      · rw [show k = 0 by omega]
      · exact List.eq_nil_of_length_eq_zero (by omega)
    · exact .inr ⟨h, hwt⟩
  have HNU := Lib.hid (fun v w h => l27Numbers_any v r w h hs (by omega))
  have HFI := Lib.hid (fun b w h => l16Find_any b s0 w h)
  obtain ⟨K, hK⟩ : ∃ K, kindZ s0 = K := ⟨_, rfl⟩
  rw [hK] at HFI
  have HD := Lib.hid hd
  have HP := Lib.hid hp
  have HK0 := Lib.hid hk0
  clear hd hp hw hwt hk0
  rcases hcase with ⟨hcz, hwt⟩ | ⟨hcz, hwt⟩
  · exfalso
    have := HK0.out
    omega
  simp only [hn, Option.isSome_some, Option.getD_some] at HNU
  have HZ := Lib.hid hz
  have HWD := Lib.hid (And.intro hwd hln)
  obtain rfl : k = 5 := by rw [← HK0.out]; exact hrl
  obtain rfl : K = 0 := by rw [← hK, hkz]
  clear hK hk hkz hkl hn hz hwd hln hrl
  have HWT := Lib.hid hwt
  clear hwt
  go_enter Tryd.func33, Tryd.ntmps33
  go_wp2_with fail
  refine (HFI.out (w.heap.size + 1 + 1) _ ?_).mono ?_
  · exact Blk.new _ (by simp)
  rintro e w1 ⟨rfl, hb1⟩
  have hz1 := hb1.size
  simp only [World.size_alloc] at hz1
  have hb : Below w.heap.size w w1 := (by ((repeat (first | (with_reducible exact Below.refl _ _) | (with_reducible refine below_drewN ?_ _) | (with_reducible refine Below.drew ?_) | (with_reducible refine below_al ?_ _) | (with_reducible refine below_on (by assumption) ?_) | ((with_reducible refine Below.setCell ?_ ?_ _); rotate_left; focus (first | omega | (simp; done) | (simp; omega))) | (with_reducible assumption))); done))
  have kN : Blk w1 w.heap.size #[.int .i64 x.nets, .slice a1 x.ds.length c1, .slice a2 x.ps.length c2] 31 := Blk.by hb1 (((Blk.new _ rfl).past _).past _)
  have kR : Blk w1 (w.heap.size + 1) #[.int .i64 0, .slice none 0 0, .slice none 0 0] 31 := Blk.by hb1 ((Blk.new _ (by simp)).past _)
  clear hb1 q0 q0x lg e0
  go_wp2_with fail
  refine (HNU.out _ _ (HWT.out.by hb)).mono ?_
  rintro e w2 ⟨v2, rfl, hB2, hb2⟩
  rcases hB2.own with ⟨_, _, _, h0⟩ | ⟨G, c5, cs, rfl, hG1, hG2, hl1, hl2, hBk, hcell⟩
  · have := HZ.out; rw [h0] at this; simp at this
  rw [HZ.out] at hl1 ⊢
  replace kN := Blk.by hb2 kN
  replace kR := Blk.by hb2 kR
  have hbz := below_on hb2 hb
  have p1 : w2.cell? ⟨G, 3, none⟩ = some (.int .i64 WD) := (hBk.cell _).trans (hcell _ _ HWD.out.1)
  have p2 : w2.cell? ⟨G, 4, none⟩ = some (.int .i64 LN) := (hBk.cell _).trans (hcell _ _ HWD.out.2)
  have HPI : Hid (IntSl w2 (.slice (some ⟨G, 0, none⟩) 3 c5) (zs.take 3)) := Lib.hid (.inr ⟨G, 0, c5, by rw [List.length_take, HZ.out]; rfl, by rw [List.length_take]; omega, hl2, fun i y hy => by
    rw [Nat.zero_add, hBk.cell]
    exact hcell i y (by
      have := (List.getElem?_eq_some_iff.1 hy).1
      rw [List.length_take] at this
      rw [List.getElem?_take_of_lt (by omega)] at hy
      exact hy)⟩)
  have hc53 : (3 : Int) ≤ (c5 : Int) := by omega
  have hw4 : IntKind.i64.wrap 4 = 4 := rfl
  have HCE := Lib.hid hcell
  have kG := hBk
  clear hb hb2 hz1 hB2 hBk hcell HWT
  have hal5 : Below w2.heap.size w2 (w2.alloc (.cells #[.int .i64 5, .int .i64 5, .int .i64 4] 3)) := (Below.refl _ w2).alloc (Nat.le_refl _) _
  replace kN := Blk.by hal5 kN
  replace kR := Blk.by hal5 kR
  replace hbz := below_on hal5 hbz
  replace p1 := cell_by' hal5 p1
  replace kG := Blk.by hal5 kG
  replace p2 := cell_by' hal5 p2
  replace HPI := Lib.hid (HPI.out.by hal5)
  clear hal5
  go_upto_region 12 with fail
  generalize w2.alloc (.cells #[.int .i64 5, .int .i64 5, .int .i64 4] 3) = w2n at *
  have hS : (fun w' : World => w'.cell? ⟨G, 3, none⟩ = some (.int .i64 WD) ∧ w'.cell? ⟨G, 4, none⟩ = some (.int .i64 LN)) { w2n with drawn := w2n.drawn + 1 } := ⟨p1, p2⟩
  refine wp_region_any (by kernel_rfl) (wpAny_of_E (S := (fun w' : World => w'.cell? ⟨G, 3, none⟩ = some (.int .i64 WD) ∧ w'.cell? ⟨G, 4, none⟩ = some (.int .i64 LN))) (l := 15) _ _ _ _ ?_)
  change wpAnyE _ _ _ _ _ _ _ _ _ w2n.drew
  refine wpAnyE_takeL (i := 0) (v := ?_) rfl (by kernel_rfl) (fun _ _ _ h => h) (Or.inl ⟨by rfl, ?_⟩) hS ?_
  rotate_left
  · intro w hSw; (try dsimp only at hSw); have qA := hSw.1; have qB := hSw.2; have lA := lt_of_cell qA; clear hSw; go_simp; (try with_reducible rfl)
  try simp only [Act.put, List.setIfInBounds_toArray, List.set_cons_zero, List.set_cons_succ]
  refine wpAnyE_takeL (i := 1) (v := ?_) rfl (by kernel_rfl) (fun _ _ _ h => h) (Or.inl ⟨by rfl, ?_⟩) hS ?_
  rotate_left
  · intro w hSw; (try dsimp only at hSw); have qA := hSw.1; have qB := hSw.2; have lA := lt_of_cell qA; clear hSw; go_simp; (try with_reducible rfl)
  try simp only [Act.put, List.setIfInBounds_toArray, List.set_cons_zero, List.set_cons_succ]
  refine wpAnyE_takeL (i := 2) (v := ?_) rfl (by kernel_rfl) (fun _ _ _ h => h) (Or.inl ⟨by rfl, ?_⟩) hS ?_
  rotate_left
  · intro w hSw; (try dsimp only at hSw); have qA := hSw.1; have qB := hSw.2; have lA := lt_of_cell qA; clear hSw; go_simp; (try with_reducible rfl)
  try simp only [Act.put, List.setIfInBounds_toArray, List.set_cons_zero, List.set_cons_succ]
  refine wpAnyE_takeL (i := 3) (v := ?_) rfl (by kernel_rfl) (fun _ _ _ h => h) (Or.inl ⟨by rfl, ?_⟩) hS ?_
  rotate_left
  · intro w hSw; (try dsimp only at hSw); have qA := hSw.1; have qB := hSw.2; have lA := lt_of_cell qA; clear hSw; go_simp; (try with_reducible rfl)
  try simp only [Act.put, List.setIfInBounds_toArray, List.set_cons_zero, List.set_cons_succ]
  refine wpAnyE_takeL (i := 4) (v := ?_) rfl (by kernel_rfl) (fun _ _ _ h => h) (Or.inl ⟨by rfl, ?_⟩) hS ?_
  rotate_left
  · intro w hSw; (try dsimp only at hSw); have qA := hSw.1; have qB := hSw.2; have lA := lt_of_cell qA; clear hSw; go_simp; (try with_reducible rfl)
  try simp only [Act.put, List.setIfInBounds_toArray, List.set_cons_zero, List.set_cons_succ]
  refine wpAnyE_takeL (i := 5) (v := ?_) rfl (by kernel_rfl) (fun _ _ _ h => h) (Or.inl ⟨by rfl, ?_⟩) hS ?_
  rotate_left
  · intro w hSw; (try dsimp only at hSw); have qA := hSw.1; have qB := hSw.2; have lA := lt_of_cell qA; clear hSw; go_simp; (try with_reducible rfl)
  try simp only [Act.put, List.setIfInBounds_toArray, List.set_cons_zero, List.set_cons_succ]
  refine wpAnyE_takeL (i := 6) (v := ?_) rfl (by kernel_rfl) (fun _ _ _ h => h) (Or.inl ⟨by rfl, ?_⟩) hS ?_
  rotate_left
  · intro w hSw; (try dsimp only at hSw); have qA := hSw.1; have qB := hSw.2; have lA := lt_of_cell qA; clear hSw; go_simp; (try with_reducible rfl)
  try simp only [Act.put, List.setIfInBounds_toArray, List.set_cons_zero, List.set_cons_succ]
  refine wpAnyE_takeL (i := 7) (v := ?_) rfl (by kernel_rfl) (fun _ _ _ h => h) (Or.inl ⟨by rfl, ?_⟩) hS ?_
  rotate_left
  · intro w hSw; (try dsimp only at hSw); have qA := hSw.1; have qB := hSw.2; have lA := lt_of_cell qA; clear hSw; go_simp; (try with_reducible rfl)
  try simp only [Act.put, List.setIfInBounds_toArray, List.set_cons_zero, List.set_cons_succ]
  refine wpAnyE_takeL (i := 8) (v := ?_) rfl (by kernel_rfl) (fun _ _ _ h => h) (Or.inl ⟨by rfl, ?_⟩) hS ?_
  rotate_left
  · intro w hSw; (try dsimp only at hSw); have qA := hSw.1; have qB := hSw.2; have lA := lt_of_cell qA; clear hSw; go_simp; (try with_reducible rfl)
  try simp only [Act.put, List.setIfInBounds_toArray, List.set_cons_zero, List.set_cons_succ]
  refine wpAnyE_takeL (i := 9) (v := ?_) rfl (by kernel_rfl) (fun _ _ _ h => h) (Or.inl ⟨by rfl, ?_⟩) hS ?_
  rotate_left
  · intro w hSw; (try dsimp only at hSw); have qA := hSw.1; have qB := hSw.2; have lA := lt_of_cell qA; clear hSw; go_simp; (try with_reducible rfl)
  try simp only [Act.put, List.setIfInBounds_toArray, List.set_cons_zero, List.set_cons_succ]
  refine wpAnyE_takeL (i := 10) (v := ?_) rfl (by kernel_rfl) (fun _ _ _ h => h) (Or.inl ⟨by rfl, ?_⟩) hS ?_
  rotate_left
  · intro w hSw; (try dsimp only at hSw); have qA := hSw.1; have qB := hSw.2; have lA := lt_of_cell qA; clear hSw; go_simp; (try with_reducible rfl)
  try simp only [Act.put, List.setIfInBounds_toArray, List.set_cons_zero, List.set_cons_succ]
  refine wpAnyE_takeL (i := 11) (v := ?_) rfl (by kernel_rfl) (fun _ _ _ h => h) (Or.inl ⟨by rfl, ?_⟩) hS ?_
  rotate_left
  · intro w hSw; (try dsimp only at hSw); have qA := hSw.1; have qB := hSw.2; have lA := lt_of_cell qA; clear hSw; go_simp; (try with_reducible rfl)
  try simp only [Act.put, List.setIfInBounds_toArray, List.set_cons_zero, List.set_cons_succ]
  refine wpAnyE_takeL (i := 12) (v := ?_) rfl (by kernel_rfl) (fun _ _ _ h => h) (Or.inl ⟨by rfl, ?_⟩) hS ?_
  rotate_left
  · intro w hSw; (try dsimp only at hSw); have qA := hSw.1; have qB := hSw.2; have lA := lt_of_cell qA; clear hSw; go_simp; (try with_reducible rfl)
  try simp only [Act.put, List.setIfInBounds_toArray, List.set_cons_zero, List.set_cons_succ]
  refine wpAnyE_takeL (i := 13) (v := ?_) rfl (by kernel_rfl) (fun _ _ _ h => h) (Or.inl ⟨by rfl, ?_⟩) hS ?_
  rotate_left
  · intro w hSw; (try dsimp only at hSw); have qA := hSw.1; have qB := hSw.2; have lA := lt_of_cell qA; clear hSw; go_simp; (try with_reducible rfl)
  try simp only [Act.put, List.setIfInBounds_toArray, List.set_cons_zero, List.set_cons_succ]
  obtain ⟨v0, hv0⟩ : ∃ q, q = w2n.drew := ⟨_, rfl⟩
  have hb3 : Below w2n.heap.size w2n v0 := by rw [hv0]; exact (Below.refl _ w2n).drew
  have hvs : v0.heap.size = w2n.heap.size := by rw [hv0]; rfl
  rw [← hv0]
  clear hv0
  have hvs1 : v0.heap.size ≤ w2n.heap.size := Nat.le_of_eq hvs
  clear hvs
  refine wpAnyE_oneL (k := 14) (by kernel_rfl) rfl (fun K hK => ?_)
  go_simp
  have hal : Below v0.heap.size v0 (v0.alloc (.cells #[.int .i64 0, .slice none 0 0, .int .i64 0, .int .i64 0] 52)) := (Below.refl _ v0).alloc (Nat.le_refl _) _
  have hvs2 := hb3.size
  replace hb3 := below_on hal hb3
  have kD0 : Blk (v0.alloc (.cells #[.int .i64 0, .slice none 0 0, .int .i64 0, .int .i64 0] 52)) v0.heap.size #[.int .i64 0, .slice none 0 0, .int .i64 0, .int .i64 0] 52 := Blk.new _ rfl
  refine hK.out _ _ (fun _ => ⟨cell_by' hb3 p1, cell_by' hb3 p2⟩) ?_
  try simp only [Act.put, List.setIfInBounds_toArray, List.set_cons_zero, List.set_cons_succ]
  clear hal hK
  generalize v0.alloc (.cells #[.int .i64 0, .slice none 0 0, .int .i64 0, .int .i64 0] 52) = z1 at *
  generalize v0.heap.size = DB at *
  have hDBg : w2n.heap.size ≤ DB := hvs2
  refine wpAnyE_oneL (k := 15) (by kernel_rfl) rfl (fun K hK => ?_)
  have cD := kD0.cell
  have fD := kD0.free
  have lD := kD0.lt
  go_simp
  refine hK.out _ _ (fun h => absurd rfl h) ?_
  refine wpAnyE_done (by kernel_rfl) ?_ _
  have kD : Blk ((((z1.setCell ⟨DB, 0, none⟩ (.int .i64 0)).setCell ⟨DB, 1, none⟩ (.slice (some ⟨G, 0, none⟩) 3 c5)).setCell ⟨DB, 2, none⟩ (.int .i64 WD)).setCell ⟨DB, 3, none⟩ (.int .i64 LN)) DB #[.int .i64 0, .slice (some ⟨G, 0, none⟩) 3 c5, .int .i64 WD, .int .i64 LN] 52 := (((kD0.set 0 _).set 1 _).set 2 _).set 3 _
  have hb4 : Below w2n.heap.size w2n ((((z1.setCell ⟨DB, 0, none⟩ (.int .i64 0)).setCell ⟨DB, 1, none⟩ (.slice (some ⟨G, 0, none⟩) 3 c5)).setCell ⟨DB, 2, none⟩ (.int .i64 WD)).setCell ⟨DB, 3, none⟩ (.int .i64 LN)) := (((hb3.setCell hDBg _).setCell hDBg _).setCell hDBg _).setCell hDBg _
  clear hS cD fD lD kD0 hb3 hK p1 p2 hvs1 hvs2
  generalize ((((z1.setCell ⟨DB, 0, none⟩ (.int .i64 0)).setCell ⟨DB, 1, none⟩ (.slice (some ⟨G, 0, none⟩) 3 c5)).setCell ⟨DB, 2, none⟩ (.int .i64 WD)).setCell ⟨DB, 3, none⟩ (.int .i64 LN)) = w3 at *
  replace kN := Blk.by hb4 kN
  replace kR := Blk.by hb4 kR
  replace hbz := below_on hb4 hbz
  replace HPI := Lib.hid (HPI.out.by hb4)
  have hNl := kN.lt
  replace kG := Blk.by hb4 kG
  have hRl := kR.lt
  have hDl := kD.lt
  clear hb4 hDBg
  have HD3 := Lib.hid (HD.out.by hbz)
  obtain ⟨NB, hNB⟩ : ∃ q, w.heap.size = q := ⟨_, rfl⟩
  go_upto_region 13 with fail
  rw [hNB] at kN kR hNl hRl
  (try rw [hNB])
  have hNBl : w.heap.size ≤ NB := Nat.le_of_eq hNB
  have hND : NB + 1 < DB ∨ DB < NB := by
    rcases Nat.lt_trichotomy DB NB with h | h | h
    · exact .inr h
    · subst h; exact absurd (kD.sameT kN) (by decide)
    · rcases Nat.lt_or_ge (NB + 1) DB with h2 | h2
      · exact .inl h2
      · obtain rfl : DB = NB + 1 := by omega
        exact absurd (kD.sameT kR) (by decide)
  have hGR : G ≠ NB + 1 := fun e => by subst e; exact absurd (kG.sameT kR) (by decide)
  clear hNB
  have hS : (fun w' : World => Blk w' NB #[.int .i64 x.nets, .slice a1 x.ds.length c1, .slice a2 x.ps.length c2] 31 ∧ Blk w' DB #[.int .i64 0, .slice (some ⟨G, 0, none⟩) 3 c5, .int .i64 WD, .int .i64 LN] 52) { w3 with drawn := w3.drawn + 1 } := ⟨kN.drew, kD.drew⟩
  refine wp_region_any (by kernel_rfl) (wpAny_of_E (S := (fun w' : World => Blk w' NB #[.int .i64 x.nets, .slice a1 x.ds.length c1, .slice a2 x.ps.length c2] 31 ∧ Blk w' DB #[.int .i64 0, .slice (some ⟨G, 0, none⟩) 3 c5, .int .i64 WD, .int .i64 LN] 52)) (l := 13) _ _ _ _ ?_)
  change wpAnyE _ _ _ _ _ _ _ _ _ w3.drew
  refine wpAnyE_takeL (i := 0) (v := ?_) rfl (by kernel_rfl) (fun _ _ _ h => h) (Or.inl ⟨by rfl, ?_⟩) hS ?_
  rotate_left
  · intro w hSw; (try dsimp only at hSw); have qA := hSw.1.cell; have lA := hSw.1.lt; have qB := hSw.2.cell; have lB := hSw.2.lt; clear hSw; go_simp; (try with_reducible rfl)
  try simp only [Act.put, List.setIfInBounds_toArray, List.set_cons_zero, List.set_cons_succ]
  refine wpAnyE_takeL (i := 1) (v := ?_) rfl (by kernel_rfl) (fun _ _ _ h => h) (Or.inl ⟨by rfl, ?_⟩) hS ?_
  rotate_left
  · intro w hSw; (try dsimp only at hSw); have qA := hSw.1.cell; have lA := hSw.1.lt; have qB := hSw.2.cell; have lB := hSw.2.lt; clear hSw; go_simp; (try with_reducible rfl)
  try simp only [Act.put, List.setIfInBounds_toArray, List.set_cons_zero, List.set_cons_succ]
  refine wpAnyE_takeL (i := 3) (v := ?_) rfl (by kernel_rfl) (fun _ _ _ h => h) (Or.inl ⟨by rfl, ?_⟩) hS ?_
  rotate_left
  · intro w hSw; (try dsimp only at hSw); have qA := hSw.1.cell; have lA := hSw.1.lt; have qB := hSw.2.cell; have lB := hSw.2.lt; clear hSw; go_simp; (try with_reducible rfl)
  try simp only [Act.put, List.setIfInBounds_toArray, List.set_cons_zero, List.set_cons_succ]
  refine wpAnyE_takeL (i := 4) (v := ?_) rfl (by kernel_rfl) (fun _ _ _ h => h) (Or.inl ⟨by rfl, ?_⟩) hS ?_
  rotate_left
  · intro w hSw; (try dsimp only at hSw); have qA := hSw.1.cell; have lA := hSw.1.lt; have qB := hSw.2.cell; have lB := hSw.2.lt; clear hSw; go_simp; (try with_reducible rfl)
  try simp only [Act.put, List.setIfInBounds_toArray, List.set_cons_zero, List.set_cons_succ]
  refine wpAnyE_takeL (i := 6) (v := ?_) rfl (by kernel_rfl) (fun _ _ _ h => h) (Or.inl ⟨by rfl, ?_⟩) hS ?_
  rotate_left
  · intro w hSw; (try dsimp only at hSw); have qA := hSw.1.cell; have lA := hSw.1.lt; have qB := hSw.2.cell; have lB := hSw.2.lt; clear hSw; go_simp; (try with_reducible rfl)
  try simp only [Act.put, List.setIfInBounds_toArray, List.set_cons_zero, List.set_cons_succ]
  refine wpAnyE_takeL (i := 9) (v := ?_) rfl (by kernel_rfl) (fun _ _ _ h => h) (Or.inl ⟨by rfl, ?_⟩) hS ?_
  rotate_left
  · intro w hSw; (try dsimp only at hSw); have qA := hSw.1.cell; have lA := hSw.1.lt; have qB := hSw.2.cell; have lB := hSw.2.lt; clear hSw; go_simp; (try with_reducible rfl)
  try simp only [Act.put, List.setIfInBounds_toArray, List.set_cons_zero, List.set_cons_succ]
  refine wpAnyE_takeL (i := 10) (v := ?_) rfl (by kernel_rfl) (fun _ _ _ h => h) (Or.inl ⟨by rfl, ?_⟩) hS ?_
  rotate_left
  · intro w hSw; (try dsimp only at hSw); have qA := hSw.1.cell; have lA := hSw.1.lt; have qB := hSw.2.cell; have lB := hSw.2.lt; clear hSw; go_simp; (try with_reducible rfl)
  try simp only [Act.put, List.setIfInBounds_toArray, List.set_cons_zero, List.set_cons_succ]
  obtain ⟨y0, hy0⟩ : ∃ q, q = w3.drew := ⟨_, rfl⟩
  have kEc : Blk y0 NB #[.int .i64 x.nets, .slice a1 x.ds.length c1, .slice a2 x.ps.length c2] 31 := by rw [hy0]; exact kN.drew
  have kRc : Blk y0 (NB + 1) #[.int .i64 0, .slice none 0 0, .slice none 0 0] 31 := by rw [hy0]; exact kR.drew
  have kDc : Blk y0 DB #[.int .i64 0, .slice (some ⟨G, 0, none⟩) 3 c5, .int .i64 WD, .int .i64 LN] 52 := by rw [hy0]; exact kD.drew
  have kGc : Blk y0 G cs 2 := by rw [hy0]; exact kG.drew
  have hGl := kG.lt
  have hbc : Below w3.heap.size w3 y0 := by rw [hy0]; exact (Below.refl _ w3).drew
  rw [← hy0]
  clear hy0 kN kR kD kG
  refine wpAnyE_twoL (k := 2) (k' := 7) (by kernel_rfl) rfl rfl (fun K hK => ?_) (fun K hK => ?_)
  · go_simp
    have hal : Below y0.heap.size y0 (y0.alloc (.cells #[] 52)) := (Below.refl _ y0).alloc (Nat.le_refl _) _
    have hz_LB : w3.heap.size ≤ y0.heap.size := hbc.size
    replace kEc := Blk.by hal kEc
    replace kRc := Blk.by hal kRc
    replace kDc := Blk.by hal kDc
    replace kGc := Blk.by hal kGc
    replace hbc := below_on hal hbc
    have kLc : Blk (y0.alloc (.cells #[] 52)) y0.heap.size #[] 52 := Blk.new _ rfl
    refine hK.out _ _ (fun _ => ⟨kEc, kDc⟩) ?_
    try simp only [Act.put, List.setIfInBounds_toArray, List.set_cons_zero, List.set_cons_succ]
    clear hal hK
    generalize y0.alloc (.cells #[] 52) = y1 at *
    generalize y0.heap.size = LB at *
    refine wpAnyE_twoL (k := 5) (k' := 7) (by kernel_rfl) rfl rfl (fun K hK => ?_) (fun K hK => ?_)
    · refine step_catD (by rfl) _ _ (by rfl) w LB LB (.slice a1 x.ds.length c1) x.ds (by rfl) (by rfl) kLc HD.out (below_on hbc hbz) (Nat.le_refl _) (by omega) ?_
      intro aa ca xs y2 HRc hdv hgr
      have hsW := hbc.size
      have hLW : LB ≤ y2.heap.size := Nat.le_trans (Nat.le_of_lt kLc.lt) hgr.size
      replace kEc : Blk y2 NB #[.int .i64 x.nets, .slice a1 x.ds.length c1, .slice a2 x.ps.length c2] 31 := (hgr.block _ kEc.lt (fun e => by have := Option.some.inj e; omega)).trans kEc
      replace kRc : Blk y2 (NB + 1) #[.int .i64 0, .slice none 0 0, .slice none 0 0] 31 := (hgr.block _ kRc.lt (fun e => by have := Option.some.inj e; omega)).trans kRc
      replace kDc : Blk y2 DB #[.int .i64 0, .slice (some ⟨G, 0, none⟩) 3 c5, .int .i64 WD, .int .i64 LN] 52 := (hgr.block _ kDc.lt (fun e => by have := Option.some.inj e; omega)).trans kDc
      replace kGc : Blk y2 G cs 2 := (hgr.block _ kGc.lt (fun e => by have := Option.some.inj e; omega)).trans kGc
      replace hbc : Below w3.heap.size w3 y2 := hbc.grown hgr hsW (fun q hq => by have := Option.some.inj hq; omega)
      refine hK.out _ _ (fun _ => ⟨kEc, kDc⟩) ?_
      try simp only [Act.put, List.setIfInBounds_toArray, List.set_cons_zero, List.set_cons_succ]
      clear hK hgr hsW
      refine wpAnyE_oneL (k := 7) (by kernel_rfl) rfl (fun K hK => ?_)
      go_simp
      have hal : Below y2.heap.size y2 (y2.alloc (.cells #[.int .i64 0, .slice (some ⟨G, 0, none⟩) 3 c5, .int .i64 WD, .int .i64 LN] 52)) := (Below.refl _ y2).alloc (Nat.le_refl _) _
      have hz_NN : w3.heap.size ≤ y2.heap.size := hbc.size
      replace kEc := Blk.by hal kEc
      replace kRc := Blk.by hal kRc
      replace kDc := Blk.by hal kDc
      replace kGc := Blk.by hal kGc
      replace HRc := row_same HRc (fun q hq => hal.block q (HRc.lt q hq).2)
      replace hbc := below_on hal hbc
      replace hLW := Nat.le_trans hLW hal.size
      have kNc : Blk (y2.alloc (.cells #[.int .i64 0, .slice (some ⟨G, 0, none⟩) 3 c5, .int .i64 WD, .int .i64 LN] 52)) y2.heap.size #[.int .i64 0, .slice (some ⟨G, 0, none⟩) 3 c5, .int .i64 WD, .int .i64 LN] 52 := Blk.new _ rfl
      refine hK.out _ _ (fun _ => ⟨kEc, kDc⟩) ?_
      try simp only [Act.put, List.setIfInBounds_toArray, List.set_cons_zero, List.set_cons_succ]
      clear hal hK
      generalize y2.alloc (.cells #[.int .i64 0, .slice (some ⟨G, 0, none⟩) 3 c5, .int .i64 WD, .int .i64 LN] 52) = y3 at *
      generalize y2.heap.size = NN at *
      refine wpAnyE_oneL (k := 8) (by kernel_rfl) rfl (fun K hK => ?_)
      refine step_oneD2 (by rfl) _ _ (by rfl) LB NN x.ds.length (.slice aa x.ds.length ca) (.slice (some ⟨G, 0, none⟩) 3 c5) xs 0 WD LN (by rfl) (by rfl) HRc rfl kNc hLW (by omega) ?_
      intro ab cb y4 HR2 hgr
      have hown := fun q (hq : (Value.slice aa x.ds.length ca).ownBlock = some q) => (HRc.lt q hq)
      have hsW := hbc.size
      replace kEc : Blk y4 NB #[.int .i64 x.nets, .slice a1 x.ds.length c1, .slice a2 x.ps.length c2] 31 := (hgr.block _ kEc.lt (fun e => by have := hown _ e.symm; omega)).trans kEc
      replace kRc : Blk y4 (NB + 1) #[.int .i64 0, .slice none 0 0, .slice none 0 0] 31 := (hgr.block _ kRc.lt (fun e => by have := hown _ e.symm; omega)).trans kRc
      replace kDc : Blk y4 DB #[.int .i64 0, .slice (some ⟨G, 0, none⟩) 3 c5, .int .i64 WD, .int .i64 LN] 52 := (hgr.block _ kDc.lt (fun e => by have := hown _ e.symm; omega)).trans kDc
      replace kGc : Blk y4 G cs 2 := (hgr.block _ kGc.lt (fun e => by have := hown _ e.symm; omega)).trans kGc
      replace hbc : Below w3.heap.size w3 y4 := hbc.grown hgr hsW (fun q hq => by have := hown _ hq; omega)
      refine hK.out _ _ (fun _ => ⟨kEc, kDc⟩) ?_
      try simp only [Act.put, List.setIfInBounds_toArray, List.set_cons_zero, List.set_cons_succ]
      clear hK hgr hsW hown HRc
      refine wpAnyE_oneL (k := 11) (by kernel_rfl) rfl (fun K hK => ?_)
      go_simp
      refine hK.out _ _ (fun _ => ⟨kEc, kDc⟩) ?_
      try simp only [Act.put, List.setIfInBounds_toArray, List.set_cons_zero, List.set_cons_succ]
      clear hK
      refine wpAnyE_oneL (k := 12) (by kernel_rfl) rfl (fun K hK => ?_)
      have cR := kRc.cell
      have fR := kRc.free
      have lR := kRc.lt
      go_simp
      have hne : ∀ q, (Value.slice ab (x.ds.length + 1) cb).ownBlock = some q → q ≠ NB + 1 := fun q hq => by have := HR2.lt q hq; omega
      have hne2 : DB ≠ NB + 1 := by omega
      have hne0 : NB ≠ NB + 1 := by omega
      have hNB1 : w.heap.size ≤ NB + 1 := by omega
      have HR3 : World.ownsRow (((y4.setCell ⟨NB + 1, 0, none⟩ (.int .i64 x.nets)).setCell ⟨NB + 1, 1, none⟩ (.slice ab (x.ds.length + 1) cb)).setCell ⟨NB + 1, 2, none⟩ (.slice a2 x.ps.length c2)) LB 52 4 (.slice ab (x.ds.length + 1) cb) (x.ds.length + 1) (xs ++ [.int .i64 0, .slice (some ⟨G, 0, none⟩) 3 c5, .int .i64 WD, .int .i64 LN]) := row_same (row_same (row_same HR2 (fun q hq => Below.heap_setCell _ ⟨NB + 1, 0, none⟩ _ q (hne q hq))) (fun q hq => Below.heap_setCell _ ⟨NB + 1, 1, none⟩ _ q (hne q hq))) (fun q hq => Below.heap_setCell _ ⟨NB + 1, 2, none⟩ _ q (hne q hq))
      have kRz : Blk (((y4.setCell ⟨NB + 1, 0, none⟩ (.int .i64 x.nets)).setCell ⟨NB + 1, 1, none⟩ (.slice ab (x.ds.length + 1) cb)).setCell ⟨NB + 1, 2, none⟩ (.slice a2 x.ps.length c2)) (NB + 1) #[.int .i64 x.nets, .slice ab (x.ds.length + 1) cb, .slice a2 x.ps.length c2] 31 := ((kRc.set 0 _).set 1 _).set 2 _
      have kGz : Blk (((y4.setCell ⟨NB + 1, 0, none⟩ (.int .i64 x.nets)).setCell ⟨NB + 1, 1, none⟩ (.slice ab (x.ds.length + 1) cb)).setCell ⟨NB + 1, 2, none⟩ (.slice a2 x.ps.length c2)) G cs 2 := ((kGc.apart _ _ _ hGR).apart _ _ _ hGR).apart _ _ _ hGR
      have hbw : Below w.heap.size w (((y4.setCell ⟨NB + 1, 0, none⟩ (.int .i64 x.nets)).setCell ⟨NB + 1, 1, none⟩ (.slice ab (x.ds.length + 1) cb)).setCell ⟨NB + 1, 2, none⟩ (.slice a2 x.ps.length c2)) := (((below_on hbc hbz).setCell hNB1 _).setCell hNB1 _).setCell hNB1 _
      refine hK.out _ _ (fun _ => ⟨((kEc.apart _ _ _ hne0).apart _ _ _ hne0).apart _ _ _ hne0, ((kDc.apart _ _ _ hne2).apart _ _ _ hne2).apart _ _ _ hne2⟩) ?_
      try simp only [Act.put, List.setIfInBounds_toArray, List.set_cons_zero, List.set_cons_succ]
      clear hK cR fR lR hne hne2 HR2
      generalize ((y4.setCell ⟨NB + 1, 0, none⟩ (.int .i64 x.nets)).setCell ⟨NB + 1, 1, none⟩ (.slice ab (x.ds.length + 1) cb)).setCell ⟨NB + 1, 2, none⟩ (.slice a2 x.ps.length c2) = y5 at *
      refine wpAnyE_oneL (k := 13) (by kernel_rfl) rfl (fun K hK => ?_)
      go_simp
      refine hK.out _ _ (fun h => absurd rfl h) ?_
      refine wpAnyE_done (by kernel_rfl) ?_ _
      clear hS
      have cRz := kRz.cell
      have lRz := kRz.lt
      have HFI := Lib.hid (row_sl2 (d := ⟨0, zs.take 3, WD, LN⟩) HR3 rfl hdv hbw (pins_of kGz HCE.out (HZ.out) hl2))
      go_wp2
      refine bodyPost_ret (v := .tuple #[.agg #[.int .i64 x.nets, .slice ab (x.ds.length + 1) cb, .slice a2 x.ps.length c2], .bool true]) (by simp [results, Tryd.results33, go_sem, *]) rfl ⟨_, by rw [HL.out]; rfl, fun y hy => ?_, hbw, _, _, _, _, _, _, _, rfl⟩
      rw [HL.out] at hy
      obtain rfl := (Option.some.inj hy).symm
      exact ⟨_, _, rfl, HFI.out, HP.out.by hbw⟩
    · go_simp
      have hal : Below y1.heap.size y1 (y1.alloc (.cells #[.int .i64 0, .slice (some ⟨G, 0, none⟩) 3 c5, .int .i64 WD, .int .i64 LN] 52)) := (Below.refl _ y1).alloc (Nat.le_refl _) _
      have hz_NN : w3.heap.size ≤ y1.heap.size := hbc.size
      have hLN : LB < y1.heap.size := kLc.lt
      replace kEc := Blk.by hal kEc
      replace kRc := Blk.by hal kRc
      replace kDc := Blk.by hal kDc
      replace kGc := Blk.by hal kGc
      replace kLc := Blk.by hal kLc
      replace hbc := below_on hal hbc
      have kNc : Blk (y1.alloc (.cells #[.int .i64 0, .slice (some ⟨G, 0, none⟩) 3 c5, .int .i64 WD, .int .i64 LN] 52)) y1.heap.size #[.int .i64 0, .slice (some ⟨G, 0, none⟩) 3 c5, .int .i64 WD, .int .i64 LN] 52 := Blk.new _ rfl
      refine hK.out _ _ (fun _ => ⟨kEc, kDc⟩) ?_
      try simp only [Act.put, List.setIfInBounds_toArray, List.set_cons_zero, List.set_cons_succ]
      clear hal hK
      generalize y1.alloc (.cells #[.int .i64 0, .slice (some ⟨G, 0, none⟩) 3 c5, .int .i64 WD, .int .i64 LN] 52) = y10 at *
      generalize y1.heap.size = NN at *
      refine wpAnyE_oneL (k := 5) (by kernel_rfl) rfl (fun K hK => ?_)
      refine step_catD (by rfl) _ _ (by rfl) w LB LB (.slice a1 x.ds.length c1) x.ds (by rfl) (by rfl) kLc HD.out (below_on hbc hbz) (Nat.le_refl _) (by omega) ?_
      intro aa ca xs y11 HRc hdv hgr
      have hsW := hbc.size
      have hLW : LB ≤ y11.heap.size := Nat.le_trans (Nat.le_of_lt kLc.lt) hgr.size
      replace kNc : Blk y11 NN #[.int .i64 0, .slice (some ⟨G, 0, none⟩) 3 c5, .int .i64 WD, .int .i64 LN] 52 := (hgr.block _ kNc.lt (fun e => by have := Option.some.inj e; omega)).trans kNc
      replace kEc : Blk y11 NB #[.int .i64 x.nets, .slice a1 x.ds.length c1, .slice a2 x.ps.length c2] 31 := (hgr.block _ kEc.lt (fun e => by have := Option.some.inj e; omega)).trans kEc
      replace kRc : Blk y11 (NB + 1) #[.int .i64 0, .slice none 0 0, .slice none 0 0] 31 := (hgr.block _ kRc.lt (fun e => by have := Option.some.inj e; omega)).trans kRc
      replace kDc : Blk y11 DB #[.int .i64 0, .slice (some ⟨G, 0, none⟩) 3 c5, .int .i64 WD, .int .i64 LN] 52 := (hgr.block _ kDc.lt (fun e => by have := Option.some.inj e; omega)).trans kDc
      replace kGc : Blk y11 G cs 2 := (hgr.block _ kGc.lt (fun e => by have := Option.some.inj e; omega)).trans kGc
      replace hbc : Below w3.heap.size w3 y11 := hbc.grown hgr hsW (fun q hq => by have := Option.some.inj hq; omega)
      refine hK.out _ _ (fun _ => ⟨kEc, kDc⟩) ?_
      try simp only [Act.put, List.setIfInBounds_toArray, List.set_cons_zero, List.set_cons_succ]
      clear hK hgr hsW
      refine wpAnyE_oneL (k := 8) (by kernel_rfl) rfl (fun K hK => ?_)
      refine step_oneD2 (by rfl) _ _ (by rfl) LB NN x.ds.length (.slice aa x.ds.length ca) (.slice (some ⟨G, 0, none⟩) 3 c5) xs 0 WD LN (by rfl) (by rfl) HRc rfl kNc hLW (by omega) ?_
      intro ab cb y12 HR2 hgr
      have hown := fun q (hq : (Value.slice aa x.ds.length ca).ownBlock = some q) => (HRc.lt q hq)
      have hsW := hbc.size
      replace kEc : Blk y12 NB #[.int .i64 x.nets, .slice a1 x.ds.length c1, .slice a2 x.ps.length c2] 31 := (hgr.block _ kEc.lt (fun e => by have := hown _ e.symm; omega)).trans kEc
      replace kRc : Blk y12 (NB + 1) #[.int .i64 0, .slice none 0 0, .slice none 0 0] 31 := (hgr.block _ kRc.lt (fun e => by have := hown _ e.symm; omega)).trans kRc
      replace kDc : Blk y12 DB #[.int .i64 0, .slice (some ⟨G, 0, none⟩) 3 c5, .int .i64 WD, .int .i64 LN] 52 := (hgr.block _ kDc.lt (fun e => by have := hown _ e.symm; omega)).trans kDc
      replace kGc : Blk y12 G cs 2 := (hgr.block _ kGc.lt (fun e => by have := hown _ e.symm; omega)).trans kGc
      replace hbc : Below w3.heap.size w3 y12 := hbc.grown hgr hsW (fun q hq => by have := hown _ hq; omega)
      refine hK.out _ _ (fun _ => ⟨kEc, kDc⟩) ?_
      try simp only [Act.put, List.setIfInBounds_toArray, List.set_cons_zero, List.set_cons_succ]
      clear hK hgr hsW hown HRc
      refine wpAnyE_oneL (k := 11) (by kernel_rfl) rfl (fun K hK => ?_)
      go_simp
      refine hK.out _ _ (fun _ => ⟨kEc, kDc⟩) ?_
      try simp only [Act.put, List.setIfInBounds_toArray, List.set_cons_zero, List.set_cons_succ]
      clear hK
      refine wpAnyE_oneL (k := 12) (by kernel_rfl) rfl (fun K hK => ?_)
      have cR := kRc.cell
      have fR := kRc.free
      have lR := kRc.lt
      go_simp
      have hne : ∀ q, (Value.slice ab (x.ds.length + 1) cb).ownBlock = some q → q ≠ NB + 1 := fun q hq => by have := HR2.lt q hq; omega
      have hne2 : DB ≠ NB + 1 := by omega
      have hne0 : NB ≠ NB + 1 := by omega
      have hNB1 : w.heap.size ≤ NB + 1 := by omega
      have HR3 : World.ownsRow (((y12.setCell ⟨NB + 1, 0, none⟩ (.int .i64 x.nets)).setCell ⟨NB + 1, 1, none⟩ (.slice ab (x.ds.length + 1) cb)).setCell ⟨NB + 1, 2, none⟩ (.slice a2 x.ps.length c2)) LB 52 4 (.slice ab (x.ds.length + 1) cb) (x.ds.length + 1) (xs ++ [.int .i64 0, .slice (some ⟨G, 0, none⟩) 3 c5, .int .i64 WD, .int .i64 LN]) := row_same (row_same (row_same HR2 (fun q hq => Below.heap_setCell _ ⟨NB + 1, 0, none⟩ _ q (hne q hq))) (fun q hq => Below.heap_setCell _ ⟨NB + 1, 1, none⟩ _ q (hne q hq))) (fun q hq => Below.heap_setCell _ ⟨NB + 1, 2, none⟩ _ q (hne q hq))
      have kRz : Blk (((y12.setCell ⟨NB + 1, 0, none⟩ (.int .i64 x.nets)).setCell ⟨NB + 1, 1, none⟩ (.slice ab (x.ds.length + 1) cb)).setCell ⟨NB + 1, 2, none⟩ (.slice a2 x.ps.length c2)) (NB + 1) #[.int .i64 x.nets, .slice ab (x.ds.length + 1) cb, .slice a2 x.ps.length c2] 31 := ((kRc.set 0 _).set 1 _).set 2 _
      have kGz : Blk (((y12.setCell ⟨NB + 1, 0, none⟩ (.int .i64 x.nets)).setCell ⟨NB + 1, 1, none⟩ (.slice ab (x.ds.length + 1) cb)).setCell ⟨NB + 1, 2, none⟩ (.slice a2 x.ps.length c2)) G cs 2 := ((kGc.apart _ _ _ hGR).apart _ _ _ hGR).apart _ _ _ hGR
      have hbw : Below w.heap.size w (((y12.setCell ⟨NB + 1, 0, none⟩ (.int .i64 x.nets)).setCell ⟨NB + 1, 1, none⟩ (.slice ab (x.ds.length + 1) cb)).setCell ⟨NB + 1, 2, none⟩ (.slice a2 x.ps.length c2)) := (((below_on hbc hbz).setCell hNB1 _).setCell hNB1 _).setCell hNB1 _
      refine hK.out _ _ (fun _ => ⟨((kEc.apart _ _ _ hne0).apart _ _ _ hne0).apart _ _ _ hne0, ((kDc.apart _ _ _ hne2).apart _ _ _ hne2).apart _ _ _ hne2⟩) ?_
      try simp only [Act.put, List.setIfInBounds_toArray, List.set_cons_zero, List.set_cons_succ]
      clear hK cR fR lR hne hne2 HR2
      generalize ((y12.setCell ⟨NB + 1, 0, none⟩ (.int .i64 x.nets)).setCell ⟨NB + 1, 1, none⟩ (.slice ab (x.ds.length + 1) cb)).setCell ⟨NB + 1, 2, none⟩ (.slice a2 x.ps.length c2) = y13 at *
      refine wpAnyE_oneL (k := 13) (by kernel_rfl) rfl (fun K hK => ?_)
      go_simp
      refine hK.out _ _ (fun h => absurd rfl h) ?_
      refine wpAnyE_done (by kernel_rfl) ?_ _
      clear hS
      have cRz := kRz.cell
      have lRz := kRz.lt
      have HFI := Lib.hid (row_sl2 (d := ⟨0, zs.take 3, WD, LN⟩) HR3 rfl hdv hbw (pins_of kGz HCE.out (HZ.out) hl2))
      go_wp2
      refine bodyPost_ret (v := .tuple #[.agg #[.int .i64 x.nets, .slice ab (x.ds.length + 1) cb, .slice a2 x.ps.length c2], .bool true]) (by simp [results, Tryd.results33, go_sem, *]) rfl ⟨_, by rw [HL.out]; rfl, fun y hy => ?_, hbw, _, _, _, _, _, _, _, rfl⟩
      rw [HL.out] at hy
      obtain rfl := (Option.some.inj hy).symm
      exact ⟨_, _, rfl, HFI.out, HP.out.by hbw⟩
  · go_simp
    have hal : Below y0.heap.size y0 (y0.alloc (.cells #[.int .i64 0, .slice (some ⟨G, 0, none⟩) 3 c5, .int .i64 WD, .int .i64 LN] 52)) := (Below.refl _ y0).alloc (Nat.le_refl _) _
    have hz_NN : w3.heap.size ≤ y0.heap.size := hbc.size
    replace kEc := Blk.by hal kEc
    replace kRc := Blk.by hal kRc
    replace kDc := Blk.by hal kDc
    replace kGc := Blk.by hal kGc
    replace hbc := below_on hal hbc
    have kNc : Blk (y0.alloc (.cells #[.int .i64 0, .slice (some ⟨G, 0, none⟩) 3 c5, .int .i64 WD, .int .i64 LN] 52)) y0.heap.size #[.int .i64 0, .slice (some ⟨G, 0, none⟩) 3 c5, .int .i64 WD, .int .i64 LN] 52 := Blk.new _ rfl
    refine hK.out _ _ (fun _ => ⟨kEc, kDc⟩) ?_
    try simp only [Act.put, List.setIfInBounds_toArray, List.set_cons_zero, List.set_cons_succ]
    clear hal hK
    generalize y0.alloc (.cells #[.int .i64 0, .slice (some ⟨G, 0, none⟩) 3 c5, .int .i64 WD, .int .i64 LN] 52) = y18 at *
    generalize y0.heap.size = NN at *
    refine wpAnyE_oneL (k := 2) (by kernel_rfl) rfl (fun K hK => ?_)
    go_simp
    have hal : Below y18.heap.size y18 (y18.alloc (.cells #[] 52)) := (Below.refl _ y18).alloc (Nat.le_refl _) _
    have hz_LB : w3.heap.size ≤ y18.heap.size := hbc.size
    have hNL : NN < y18.heap.size := kNc.lt
    replace kEc := Blk.by hal kEc
    replace kRc := Blk.by hal kRc
    replace kDc := Blk.by hal kDc
    replace kGc := Blk.by hal kGc
    replace kNc := Blk.by hal kNc
    replace hbc := below_on hal hbc
    have kLc : Blk (y18.alloc (.cells #[] 52)) y18.heap.size #[] 52 := Blk.new _ rfl
    refine hK.out _ _ (fun _ => ⟨kEc, kDc⟩) ?_
    try simp only [Act.put, List.setIfInBounds_toArray, List.set_cons_zero, List.set_cons_succ]
    clear hal hK
    generalize y18.alloc (.cells #[] 52) = y19 at *
    generalize y18.heap.size = LB at *
    refine wpAnyE_oneL (k := 5) (by kernel_rfl) rfl (fun K hK => ?_)
    refine step_catD (by rfl) _ _ (by rfl) w LB LB (.slice a1 x.ds.length c1) x.ds (by rfl) (by rfl) kLc HD.out (below_on hbc hbz) (Nat.le_refl _) (by omega) ?_
    intro aa ca xs y20 HRc hdv hgr
    have hsW := hbc.size
    have hLW : LB ≤ y20.heap.size := Nat.le_trans (Nat.le_of_lt kLc.lt) hgr.size
    replace kNc : Blk y20 NN #[.int .i64 0, .slice (some ⟨G, 0, none⟩) 3 c5, .int .i64 WD, .int .i64 LN] 52 := (hgr.block _ kNc.lt (fun e => by have := Option.some.inj e; omega)).trans kNc
    replace kEc : Blk y20 NB #[.int .i64 x.nets, .slice a1 x.ds.length c1, .slice a2 x.ps.length c2] 31 := (hgr.block _ kEc.lt (fun e => by have := Option.some.inj e; omega)).trans kEc
    replace kRc : Blk y20 (NB + 1) #[.int .i64 0, .slice none 0 0, .slice none 0 0] 31 := (hgr.block _ kRc.lt (fun e => by have := Option.some.inj e; omega)).trans kRc
    replace kDc : Blk y20 DB #[.int .i64 0, .slice (some ⟨G, 0, none⟩) 3 c5, .int .i64 WD, .int .i64 LN] 52 := (hgr.block _ kDc.lt (fun e => by have := Option.some.inj e; omega)).trans kDc
    replace kGc : Blk y20 G cs 2 := (hgr.block _ kGc.lt (fun e => by have := Option.some.inj e; omega)).trans kGc
    replace hbc : Below w3.heap.size w3 y20 := hbc.grown hgr hsW (fun q hq => by have := Option.some.inj hq; omega)
    refine hK.out _ _ (fun _ => ⟨kEc, kDc⟩) ?_
    try simp only [Act.put, List.setIfInBounds_toArray, List.set_cons_zero, List.set_cons_succ]
    clear hK hgr hsW
    refine wpAnyE_oneL (k := 8) (by kernel_rfl) rfl (fun K hK => ?_)
    refine step_oneD2 (by rfl) _ _ (by rfl) LB NN x.ds.length (.slice aa x.ds.length ca) (.slice (some ⟨G, 0, none⟩) 3 c5) xs 0 WD LN (by rfl) (by rfl) HRc rfl kNc hLW (by omega) ?_
    intro ab cb y21 HR2 hgr
    have hown := fun q (hq : (Value.slice aa x.ds.length ca).ownBlock = some q) => (HRc.lt q hq)
    have hsW := hbc.size
    replace kEc : Blk y21 NB #[.int .i64 x.nets, .slice a1 x.ds.length c1, .slice a2 x.ps.length c2] 31 := (hgr.block _ kEc.lt (fun e => by have := hown _ e.symm; omega)).trans kEc
    replace kRc : Blk y21 (NB + 1) #[.int .i64 0, .slice none 0 0, .slice none 0 0] 31 := (hgr.block _ kRc.lt (fun e => by have := hown _ e.symm; omega)).trans kRc
    replace kDc : Blk y21 DB #[.int .i64 0, .slice (some ⟨G, 0, none⟩) 3 c5, .int .i64 WD, .int .i64 LN] 52 := (hgr.block _ kDc.lt (fun e => by have := hown _ e.symm; omega)).trans kDc
    replace kGc : Blk y21 G cs 2 := (hgr.block _ kGc.lt (fun e => by have := hown _ e.symm; omega)).trans kGc
    replace hbc : Below w3.heap.size w3 y21 := hbc.grown hgr hsW (fun q hq => by have := hown _ hq; omega)
    refine hK.out _ _ (fun _ => ⟨kEc, kDc⟩) ?_
    try simp only [Act.put, List.setIfInBounds_toArray, List.set_cons_zero, List.set_cons_succ]
    clear hK hgr hsW hown HRc
    refine wpAnyE_oneL (k := 11) (by kernel_rfl) rfl (fun K hK => ?_)
    go_simp
    refine hK.out _ _ (fun _ => ⟨kEc, kDc⟩) ?_
    try simp only [Act.put, List.setIfInBounds_toArray, List.set_cons_zero, List.set_cons_succ]
    clear hK
    refine wpAnyE_oneL (k := 12) (by kernel_rfl) rfl (fun K hK => ?_)
    have cR := kRc.cell
    have fR := kRc.free
    have lR := kRc.lt
    go_simp
    have hne : ∀ q, (Value.slice ab (x.ds.length + 1) cb).ownBlock = some q → q ≠ NB + 1 := fun q hq => by have := HR2.lt q hq; omega
    have hne2 : DB ≠ NB + 1 := by omega
    have hne0 : NB ≠ NB + 1 := by omega
    have hNB1 : w.heap.size ≤ NB + 1 := by omega
    have HR3 : World.ownsRow (((y21.setCell ⟨NB + 1, 0, none⟩ (.int .i64 x.nets)).setCell ⟨NB + 1, 1, none⟩ (.slice ab (x.ds.length + 1) cb)).setCell ⟨NB + 1, 2, none⟩ (.slice a2 x.ps.length c2)) LB 52 4 (.slice ab (x.ds.length + 1) cb) (x.ds.length + 1) (xs ++ [.int .i64 0, .slice (some ⟨G, 0, none⟩) 3 c5, .int .i64 WD, .int .i64 LN]) := row_same (row_same (row_same HR2 (fun q hq => Below.heap_setCell _ ⟨NB + 1, 0, none⟩ _ q (hne q hq))) (fun q hq => Below.heap_setCell _ ⟨NB + 1, 1, none⟩ _ q (hne q hq))) (fun q hq => Below.heap_setCell _ ⟨NB + 1, 2, none⟩ _ q (hne q hq))
    have kRz : Blk (((y21.setCell ⟨NB + 1, 0, none⟩ (.int .i64 x.nets)).setCell ⟨NB + 1, 1, none⟩ (.slice ab (x.ds.length + 1) cb)).setCell ⟨NB + 1, 2, none⟩ (.slice a2 x.ps.length c2)) (NB + 1) #[.int .i64 x.nets, .slice ab (x.ds.length + 1) cb, .slice a2 x.ps.length c2] 31 := ((kRc.set 0 _).set 1 _).set 2 _
    have kGz : Blk (((y21.setCell ⟨NB + 1, 0, none⟩ (.int .i64 x.nets)).setCell ⟨NB + 1, 1, none⟩ (.slice ab (x.ds.length + 1) cb)).setCell ⟨NB + 1, 2, none⟩ (.slice a2 x.ps.length c2)) G cs 2 := ((kGc.apart _ _ _ hGR).apart _ _ _ hGR).apart _ _ _ hGR
    have hbw : Below w.heap.size w (((y21.setCell ⟨NB + 1, 0, none⟩ (.int .i64 x.nets)).setCell ⟨NB + 1, 1, none⟩ (.slice ab (x.ds.length + 1) cb)).setCell ⟨NB + 1, 2, none⟩ (.slice a2 x.ps.length c2)) := (((below_on hbc hbz).setCell hNB1 _).setCell hNB1 _).setCell hNB1 _
    refine hK.out _ _ (fun _ => ⟨((kEc.apart _ _ _ hne0).apart _ _ _ hne0).apart _ _ _ hne0, ((kDc.apart _ _ _ hne2).apart _ _ _ hne2).apart _ _ _ hne2⟩) ?_
    try simp only [Act.put, List.setIfInBounds_toArray, List.set_cons_zero, List.set_cons_succ]
    clear hK cR fR lR hne hne2 HR2
    generalize ((y21.setCell ⟨NB + 1, 0, none⟩ (.int .i64 x.nets)).setCell ⟨NB + 1, 1, none⟩ (.slice ab (x.ds.length + 1) cb)).setCell ⟨NB + 1, 2, none⟩ (.slice a2 x.ps.length c2) = y22 at *
    refine wpAnyE_oneL (k := 13) (by kernel_rfl) rfl (fun K hK => ?_)
    go_simp
    refine hK.out _ _ (fun h => absurd rfl h) ?_
    refine wpAnyE_done (by kernel_rfl) ?_ _
    clear hS
    have cRz := kRz.cell
    have lRz := kRz.lt
    have HFI := Lib.hid (row_sl2 (d := ⟨0, zs.take 3, WD, LN⟩) HR3 rfl hdv hbw (pins_of kGz HCE.out (HZ.out) hl2))
    go_wp2
    refine bodyPost_ret (v := .tuple #[.agg #[.int .i64 x.nets, .slice ab (x.ds.length + 1) cb, .slice a2 x.ps.length c2], .bool true]) (by simp [results, Tryd.results33, go_sem, *]) rfl ⟨_, by rw [HL.out]; rfl, fun y hy => ?_, hbw, _, _, _, _, _, _, _, rfl⟩
    rw [HL.out] at hy
    obtain rfl := (Option.some.inj hy).symm
    exact ⟨_, _, rfl, HFI.out, HP.out.by hbw⟩

set_option maxRecDepth 100000 in
set_option maxHeartbeats 8000000 in
theorem line_d4_1 (x : Nl) (v : Value) (a0 : Option Addr) (n c : Nat) (s0 : ByteArray) (r : List ByteArray) (w : World) (h : NlV w v x) (hw : StrSl w (.slice a0 n c) (s0 :: r)) (zs : List Int) (WD LN : Int) (hk : ¬ s0.data.toList = wPortL) (hs : ∀ y ∈ r, y.size ≤ 1048576) (hr : r.length ≤ 1048577) (hkl : kindL s0.data.toList = some 1)
    (hn : numsL (lsts r) = some zs) (hz : zs.length = 5) (hwd : zs[3]? = some WD) (hln : zs[4]? = some LN) (hd50 : x.ds.length ≤ 50) :
    Calls Tryd.prog 33 #[v, .slice a0 n c] w fun e w' => ∃ v', e = .returned (.tuple #[v', .bool (lineL false x (lsts (s0 :: r))).isSome]) ∧ (∀ y, lineL false x (lsts (s0 :: r)) = some y → NlV w' v' y) ∧ Below w.heap.size w w' ∧ ShNl v' := by
  have hkz : kindZ s0 = 1 := by unfold kindZ; rw [hkl]; rfl
  have HL : Hid (lineL false x (lsts (s0 :: r)) = some { x with ds := x.ds ++ [⟨1, zs.take 3, WD, LN⟩] }) := Lib.hid (by
    unfold lsts lineL
    simp only [List.map_cons, hk, Bool.false_eq_true, if_false, hkl]
    rw [show numsL (r.map fun b : ByteArray => b.data.toList) = some zs from hn]
    dsimp only
    rw [show pinN 1 = 3 from rfl, if_pos hz, hwd, hln]
    rfl)
  have hrl : r.length = 5 := by have := (numsL_words hn).1; rw [hz] at this; simpa [lsts] using this.symm
  obtain ⟨g, o, rfl, hn0⟩ := str_at hw
  obtain ⟨s1, s2, rfl, hd, hp⟩ := h
  obtain ⟨a1, c1, rfl⟩ := hd.sized
  obtain ⟨a2, c2, rfl⟩ := hp.sized
  obtain ⟨k, hk0⟩ : ∃ k, r.length = k := ⟨_, rfl⟩
  rw [hk0] at hn0
  subst hn0
  obtain ⟨-, hc1, hwt⟩ := hw.tail
  rw [show k + 1 - 1 = k by omega] at hwt
  have q0 : w.cell? ⟨g, o, none⟩ = some (.string s0) := str_cell hw 0 s0 rfl
  have e0 : (s0.toList == ([112, 111, 114, 116] : List UInt8)) = false := by rw [port_word, decide_eq_false hk]
  have e1 : (0 : Int) < (((k + 1 : Nat)) : Int) := by omega
  have e2 : k + 1 ≤ c := by
    rcases hwt with ⟨_, _, h1, h2⟩ | ⟨_, _, _, h1, h2, _⟩
    · simp only [Value.slice.injEq] at h1; omega
    · simp only [Value.slice.injEq] at h1; omega
  have lg := lt_of_cell q0
  dsimp only at lg
  have q0x : ∀ X Y Z : Obj, (((w.alloc X).alloc Y).alloc Z).cell? ⟨g, o, none⟩ = some (.string s0) := fun X Y Z => cell_by' (below_al (below_al (below_al (Below.refl _ w) X) Y) Z) q0
  have hcase : (c - 1 = 0 ∧ StrSl w (.slice (some ⟨g, o, none⟩) k 0) r) ∨ (¬ c - 1 = 0 ∧ StrSl w (.slice (some ⟨g, o + 1, none⟩) k (c - 1)) r) := by
    by_cases h : c - 1 = 0
    · refine .inl ⟨h, .inl ⟨some ⟨g, o, none⟩, 0, ?_, ?_⟩⟩
      · rw [show k = 0 by omega]
      · exact List.eq_nil_of_length_eq_zero (by omega)
    · exact .inr ⟨h, hwt⟩
  have HNU := Lib.hid (fun v w h => l27Numbers_any v r w h hs (by omega))
  have HFI := Lib.hid (fun b w h => l16Find_any b s0 w h)
  obtain ⟨K, hK⟩ : ∃ K, kindZ s0 = K := ⟨_, rfl⟩
  rw [hK] at HFI
  have HD := Lib.hid hd
  have HP := Lib.hid hp
  have HK0 := Lib.hid hk0
  clear hd hp hw hwt hk0
  rcases hcase with ⟨hcz, hwt⟩ | ⟨hcz, hwt⟩
  · exfalso
    have := HK0.out
    omega
  simp only [hn, Option.isSome_some, Option.getD_some] at HNU
  have HZ := Lib.hid hz
  have HWD := Lib.hid (And.intro hwd hln)
  obtain rfl : k = 5 := by rw [← HK0.out]; exact hrl
  obtain rfl : K = 1 := by rw [← hK, hkz]
  clear hK hk hkz hkl hn hz hwd hln hrl
  have HWT := Lib.hid hwt
  clear hwt
  go_enter Tryd.func33, Tryd.ntmps33
  go_wp2_with fail
  refine (HFI.out (w.heap.size + 1 + 1) _ ?_).mono ?_
  · exact Blk.new _ (by simp)
  rintro e w1 ⟨rfl, hb1⟩
  have hz1 := hb1.size
  simp only [World.size_alloc] at hz1
  have hb : Below w.heap.size w w1 := (by ((repeat (first | (with_reducible exact Below.refl _ _) | (with_reducible refine below_drewN ?_ _) | (with_reducible refine Below.drew ?_) | (with_reducible refine below_al ?_ _) | (with_reducible refine below_on (by assumption) ?_) | ((with_reducible refine Below.setCell ?_ ?_ _); rotate_left; focus (first | omega | (simp; done) | (simp; omega))) | (with_reducible assumption))); done))
  have kN : Blk w1 w.heap.size #[.int .i64 x.nets, .slice a1 x.ds.length c1, .slice a2 x.ps.length c2] 31 := Blk.by hb1 (((Blk.new _ rfl).past _).past _)
  have kR : Blk w1 (w.heap.size + 1) #[.int .i64 0, .slice none 0 0, .slice none 0 0] 31 := Blk.by hb1 ((Blk.new _ (by simp)).past _)
  clear hb1 q0 q0x lg e0
  go_wp2_with fail
  refine (HNU.out _ _ (HWT.out.by hb)).mono ?_
  rintro e w2 ⟨v2, rfl, hB2, hb2⟩
  rcases hB2.own with ⟨_, _, _, h0⟩ | ⟨G, c5, cs, rfl, hG1, hG2, hl1, hl2, hBk, hcell⟩
  · have := HZ.out; rw [h0] at this; simp at this
  rw [HZ.out] at hl1 ⊢
  replace kN := Blk.by hb2 kN
  replace kR := Blk.by hb2 kR
  have hbz := below_on hb2 hb
  have p1 : w2.cell? ⟨G, 3, none⟩ = some (.int .i64 WD) := (hBk.cell _).trans (hcell _ _ HWD.out.1)
  have p2 : w2.cell? ⟨G, 4, none⟩ = some (.int .i64 LN) := (hBk.cell _).trans (hcell _ _ HWD.out.2)
  have HPI : Hid (IntSl w2 (.slice (some ⟨G, 0, none⟩) 3 c5) (zs.take 3)) := Lib.hid (.inr ⟨G, 0, c5, by rw [List.length_take, HZ.out]; rfl, by rw [List.length_take]; omega, hl2, fun i y hy => by
    rw [Nat.zero_add, hBk.cell]
    exact hcell i y (by
      have := (List.getElem?_eq_some_iff.1 hy).1
      rw [List.length_take] at this
      rw [List.getElem?_take_of_lt (by omega)] at hy
      exact hy)⟩)
  have hc53 : (3 : Int) ≤ (c5 : Int) := by omega
  have hw4 : IntKind.i64.wrap 4 = 4 := rfl
  have HCE := Lib.hid hcell
  have kG := hBk
  clear hb hb2 hz1 hB2 hBk hcell HWT
  have hal5 : Below w2.heap.size w2 (w2.alloc (.cells #[.int .i64 5, .int .i64 5, .int .i64 4] 3)) := (Below.refl _ w2).alloc (Nat.le_refl _) _
  replace kN := Blk.by hal5 kN
  replace kR := Blk.by hal5 kR
  replace hbz := below_on hal5 hbz
  replace p1 := cell_by' hal5 p1
  replace kG := Blk.by hal5 kG
  replace p2 := cell_by' hal5 p2
  replace HPI := Lib.hid (HPI.out.by hal5)
  clear hal5
  go_upto_region 12 with fail
  generalize w2.alloc (.cells #[.int .i64 5, .int .i64 5, .int .i64 4] 3) = w2n at *
  have hS : (fun w' : World => w'.cell? ⟨G, 3, none⟩ = some (.int .i64 WD) ∧ w'.cell? ⟨G, 4, none⟩ = some (.int .i64 LN)) { w2n with drawn := w2n.drawn + 1 } := ⟨p1, p2⟩
  refine wp_region_any (by kernel_rfl) (wpAny_of_E (S := (fun w' : World => w'.cell? ⟨G, 3, none⟩ = some (.int .i64 WD) ∧ w'.cell? ⟨G, 4, none⟩ = some (.int .i64 LN))) (l := 15) _ _ _ _ ?_)
  change wpAnyE _ _ _ _ _ _ _ _ _ w2n.drew
  refine wpAnyE_takeL (i := 0) (v := ?_) rfl (by kernel_rfl) (fun _ _ _ h => h) (Or.inl ⟨by rfl, ?_⟩) hS ?_
  rotate_left
  · intro w hSw; (try dsimp only at hSw); have qA := hSw.1; have qB := hSw.2; have lA := lt_of_cell qA; clear hSw; go_simp; (try with_reducible rfl)
  try simp only [Act.put, List.setIfInBounds_toArray, List.set_cons_zero, List.set_cons_succ]
  refine wpAnyE_takeL (i := 1) (v := ?_) rfl (by kernel_rfl) (fun _ _ _ h => h) (Or.inl ⟨by rfl, ?_⟩) hS ?_
  rotate_left
  · intro w hSw; (try dsimp only at hSw); have qA := hSw.1; have qB := hSw.2; have lA := lt_of_cell qA; clear hSw; go_simp; (try with_reducible rfl)
  try simp only [Act.put, List.setIfInBounds_toArray, List.set_cons_zero, List.set_cons_succ]
  refine wpAnyE_takeL (i := 2) (v := ?_) rfl (by kernel_rfl) (fun _ _ _ h => h) (Or.inl ⟨by rfl, ?_⟩) hS ?_
  rotate_left
  · intro w hSw; (try dsimp only at hSw); have qA := hSw.1; have qB := hSw.2; have lA := lt_of_cell qA; clear hSw; go_simp; (try with_reducible rfl)
  try simp only [Act.put, List.setIfInBounds_toArray, List.set_cons_zero, List.set_cons_succ]
  refine wpAnyE_takeL (i := 3) (v := ?_) rfl (by kernel_rfl) (fun _ _ _ h => h) (Or.inl ⟨by rfl, ?_⟩) hS ?_
  rotate_left
  · intro w hSw; (try dsimp only at hSw); have qA := hSw.1; have qB := hSw.2; have lA := lt_of_cell qA; clear hSw; go_simp; (try with_reducible rfl)
  try simp only [Act.put, List.setIfInBounds_toArray, List.set_cons_zero, List.set_cons_succ]
  refine wpAnyE_takeL (i := 4) (v := ?_) rfl (by kernel_rfl) (fun _ _ _ h => h) (Or.inl ⟨by rfl, ?_⟩) hS ?_
  rotate_left
  · intro w hSw; (try dsimp only at hSw); have qA := hSw.1; have qB := hSw.2; have lA := lt_of_cell qA; clear hSw; go_simp; (try with_reducible rfl)
  try simp only [Act.put, List.setIfInBounds_toArray, List.set_cons_zero, List.set_cons_succ]
  refine wpAnyE_takeL (i := 5) (v := ?_) rfl (by kernel_rfl) (fun _ _ _ h => h) (Or.inl ⟨by rfl, ?_⟩) hS ?_
  rotate_left
  · intro w hSw; (try dsimp only at hSw); have qA := hSw.1; have qB := hSw.2; have lA := lt_of_cell qA; clear hSw; go_simp; (try with_reducible rfl)
  try simp only [Act.put, List.setIfInBounds_toArray, List.set_cons_zero, List.set_cons_succ]
  refine wpAnyE_takeL (i := 6) (v := ?_) rfl (by kernel_rfl) (fun _ _ _ h => h) (Or.inl ⟨by rfl, ?_⟩) hS ?_
  rotate_left
  · intro w hSw; (try dsimp only at hSw); have qA := hSw.1; have qB := hSw.2; have lA := lt_of_cell qA; clear hSw; go_simp; (try with_reducible rfl)
  try simp only [Act.put, List.setIfInBounds_toArray, List.set_cons_zero, List.set_cons_succ]
  refine wpAnyE_takeL (i := 7) (v := ?_) rfl (by kernel_rfl) (fun _ _ _ h => h) (Or.inl ⟨by rfl, ?_⟩) hS ?_
  rotate_left
  · intro w hSw; (try dsimp only at hSw); have qA := hSw.1; have qB := hSw.2; have lA := lt_of_cell qA; clear hSw; go_simp; (try with_reducible rfl)
  try simp only [Act.put, List.setIfInBounds_toArray, List.set_cons_zero, List.set_cons_succ]
  refine wpAnyE_takeL (i := 8) (v := ?_) rfl (by kernel_rfl) (fun _ _ _ h => h) (Or.inl ⟨by rfl, ?_⟩) hS ?_
  rotate_left
  · intro w hSw; (try dsimp only at hSw); have qA := hSw.1; have qB := hSw.2; have lA := lt_of_cell qA; clear hSw; go_simp; (try with_reducible rfl)
  try simp only [Act.put, List.setIfInBounds_toArray, List.set_cons_zero, List.set_cons_succ]
  refine wpAnyE_takeL (i := 9) (v := ?_) rfl (by kernel_rfl) (fun _ _ _ h => h) (Or.inl ⟨by rfl, ?_⟩) hS ?_
  rotate_left
  · intro w hSw; (try dsimp only at hSw); have qA := hSw.1; have qB := hSw.2; have lA := lt_of_cell qA; clear hSw; go_simp; (try with_reducible rfl)
  try simp only [Act.put, List.setIfInBounds_toArray, List.set_cons_zero, List.set_cons_succ]
  refine wpAnyE_takeL (i := 10) (v := ?_) rfl (by kernel_rfl) (fun _ _ _ h => h) (Or.inl ⟨by rfl, ?_⟩) hS ?_
  rotate_left
  · intro w hSw; (try dsimp only at hSw); have qA := hSw.1; have qB := hSw.2; have lA := lt_of_cell qA; clear hSw; go_simp; (try with_reducible rfl)
  try simp only [Act.put, List.setIfInBounds_toArray, List.set_cons_zero, List.set_cons_succ]
  refine wpAnyE_takeL (i := 11) (v := ?_) rfl (by kernel_rfl) (fun _ _ _ h => h) (Or.inl ⟨by rfl, ?_⟩) hS ?_
  rotate_left
  · intro w hSw; (try dsimp only at hSw); have qA := hSw.1; have qB := hSw.2; have lA := lt_of_cell qA; clear hSw; go_simp; (try with_reducible rfl)
  try simp only [Act.put, List.setIfInBounds_toArray, List.set_cons_zero, List.set_cons_succ]
  refine wpAnyE_takeL (i := 12) (v := ?_) rfl (by kernel_rfl) (fun _ _ _ h => h) (Or.inl ⟨by rfl, ?_⟩) hS ?_
  rotate_left
  · intro w hSw; (try dsimp only at hSw); have qA := hSw.1; have qB := hSw.2; have lA := lt_of_cell qA; clear hSw; go_simp; (try with_reducible rfl)
  try simp only [Act.put, List.setIfInBounds_toArray, List.set_cons_zero, List.set_cons_succ]
  refine wpAnyE_takeL (i := 13) (v := ?_) rfl (by kernel_rfl) (fun _ _ _ h => h) (Or.inl ⟨by rfl, ?_⟩) hS ?_
  rotate_left
  · intro w hSw; (try dsimp only at hSw); have qA := hSw.1; have qB := hSw.2; have lA := lt_of_cell qA; clear hSw; go_simp; (try with_reducible rfl)
  try simp only [Act.put, List.setIfInBounds_toArray, List.set_cons_zero, List.set_cons_succ]
  obtain ⟨v0, hv0⟩ : ∃ q, q = w2n.drew := ⟨_, rfl⟩
  have hb3 : Below w2n.heap.size w2n v0 := by rw [hv0]; exact (Below.refl _ w2n).drew
  have hvs : v0.heap.size = w2n.heap.size := by rw [hv0]; rfl
  rw [← hv0]
  clear hv0
  have hvs1 : v0.heap.size ≤ w2n.heap.size := Nat.le_of_eq hvs
  clear hvs
  refine wpAnyE_oneL (k := 14) (by kernel_rfl) rfl (fun K hK => ?_)
  go_simp
  have hal : Below v0.heap.size v0 (v0.alloc (.cells #[.int .i64 0, .slice none 0 0, .int .i64 0, .int .i64 0] 52)) := (Below.refl _ v0).alloc (Nat.le_refl _) _
  have hvs2 := hb3.size
  replace hb3 := below_on hal hb3
  have kD0 : Blk (v0.alloc (.cells #[.int .i64 0, .slice none 0 0, .int .i64 0, .int .i64 0] 52)) v0.heap.size #[.int .i64 0, .slice none 0 0, .int .i64 0, .int .i64 0] 52 := Blk.new _ rfl
  refine hK.out _ _ (fun _ => ⟨cell_by' hb3 p1, cell_by' hb3 p2⟩) ?_
  try simp only [Act.put, List.setIfInBounds_toArray, List.set_cons_zero, List.set_cons_succ]
  clear hal hK
  generalize v0.alloc (.cells #[.int .i64 0, .slice none 0 0, .int .i64 0, .int .i64 0] 52) = z1 at *
  generalize v0.heap.size = DB at *
  have hDBg : w2n.heap.size ≤ DB := hvs2
  refine wpAnyE_oneL (k := 15) (by kernel_rfl) rfl (fun K hK => ?_)
  have cD := kD0.cell
  have fD := kD0.free
  have lD := kD0.lt
  go_simp
  refine hK.out _ _ (fun h => absurd rfl h) ?_
  refine wpAnyE_done (by kernel_rfl) ?_ _
  have kD : Blk ((((z1.setCell ⟨DB, 0, none⟩ (.int .i64 1)).setCell ⟨DB, 1, none⟩ (.slice (some ⟨G, 0, none⟩) 3 c5)).setCell ⟨DB, 2, none⟩ (.int .i64 WD)).setCell ⟨DB, 3, none⟩ (.int .i64 LN)) DB #[.int .i64 1, .slice (some ⟨G, 0, none⟩) 3 c5, .int .i64 WD, .int .i64 LN] 52 := (((kD0.set 0 _).set 1 _).set 2 _).set 3 _
  have hb4 : Below w2n.heap.size w2n ((((z1.setCell ⟨DB, 0, none⟩ (.int .i64 1)).setCell ⟨DB, 1, none⟩ (.slice (some ⟨G, 0, none⟩) 3 c5)).setCell ⟨DB, 2, none⟩ (.int .i64 WD)).setCell ⟨DB, 3, none⟩ (.int .i64 LN)) := (((hb3.setCell hDBg _).setCell hDBg _).setCell hDBg _).setCell hDBg _
  clear hS cD fD lD kD0 hb3 hK p1 p2 hvs1 hvs2
  generalize ((((z1.setCell ⟨DB, 0, none⟩ (.int .i64 1)).setCell ⟨DB, 1, none⟩ (.slice (some ⟨G, 0, none⟩) 3 c5)).setCell ⟨DB, 2, none⟩ (.int .i64 WD)).setCell ⟨DB, 3, none⟩ (.int .i64 LN)) = w3 at *
  replace kN := Blk.by hb4 kN
  replace kR := Blk.by hb4 kR
  replace hbz := below_on hb4 hbz
  replace HPI := Lib.hid (HPI.out.by hb4)
  have hNl := kN.lt
  replace kG := Blk.by hb4 kG
  have hRl := kR.lt
  have hDl := kD.lt
  clear hb4 hDBg
  have HD3 := Lib.hid (HD.out.by hbz)
  obtain ⟨NB, hNB⟩ : ∃ q, w.heap.size = q := ⟨_, rfl⟩
  go_upto_region 13 with fail
  rw [hNB] at kN kR hNl hRl
  (try rw [hNB])
  have hNBl : w.heap.size ≤ NB := Nat.le_of_eq hNB
  have hND : NB + 1 < DB ∨ DB < NB := by
    rcases Nat.lt_trichotomy DB NB with h | h | h
    · exact .inr h
    · subst h; exact absurd (kD.sameT kN) (by decide)
    · rcases Nat.lt_or_ge (NB + 1) DB with h2 | h2
      · exact .inl h2
      · obtain rfl : DB = NB + 1 := by omega
        exact absurd (kD.sameT kR) (by decide)
  have hGR : G ≠ NB + 1 := fun e => by subst e; exact absurd (kG.sameT kR) (by decide)
  clear hNB
  have hS : (fun w' : World => Blk w' NB #[.int .i64 x.nets, .slice a1 x.ds.length c1, .slice a2 x.ps.length c2] 31 ∧ Blk w' DB #[.int .i64 1, .slice (some ⟨G, 0, none⟩) 3 c5, .int .i64 WD, .int .i64 LN] 52) { w3 with drawn := w3.drawn + 1 } := ⟨kN.drew, kD.drew⟩
  refine wp_region_any (by kernel_rfl) (wpAny_of_E (S := (fun w' : World => Blk w' NB #[.int .i64 x.nets, .slice a1 x.ds.length c1, .slice a2 x.ps.length c2] 31 ∧ Blk w' DB #[.int .i64 1, .slice (some ⟨G, 0, none⟩) 3 c5, .int .i64 WD, .int .i64 LN] 52)) (l := 13) _ _ _ _ ?_)
  change wpAnyE _ _ _ _ _ _ _ _ _ w3.drew
  refine wpAnyE_takeL (i := 0) (v := ?_) rfl (by kernel_rfl) (fun _ _ _ h => h) (Or.inl ⟨by rfl, ?_⟩) hS ?_
  rotate_left
  · intro w hSw; (try dsimp only at hSw); have qA := hSw.1.cell; have lA := hSw.1.lt; have qB := hSw.2.cell; have lB := hSw.2.lt; clear hSw; go_simp; (try with_reducible rfl)
  try simp only [Act.put, List.setIfInBounds_toArray, List.set_cons_zero, List.set_cons_succ]
  refine wpAnyE_takeL (i := 1) (v := ?_) rfl (by kernel_rfl) (fun _ _ _ h => h) (Or.inl ⟨by rfl, ?_⟩) hS ?_
  rotate_left
  · intro w hSw; (try dsimp only at hSw); have qA := hSw.1.cell; have lA := hSw.1.lt; have qB := hSw.2.cell; have lB := hSw.2.lt; clear hSw; go_simp; (try with_reducible rfl)
  try simp only [Act.put, List.setIfInBounds_toArray, List.set_cons_zero, List.set_cons_succ]
  refine wpAnyE_takeL (i := 3) (v := ?_) rfl (by kernel_rfl) (fun _ _ _ h => h) (Or.inl ⟨by rfl, ?_⟩) hS ?_
  rotate_left
  · intro w hSw; (try dsimp only at hSw); have qA := hSw.1.cell; have lA := hSw.1.lt; have qB := hSw.2.cell; have lB := hSw.2.lt; clear hSw; go_simp; (try with_reducible rfl)
  try simp only [Act.put, List.setIfInBounds_toArray, List.set_cons_zero, List.set_cons_succ]
  refine wpAnyE_takeL (i := 4) (v := ?_) rfl (by kernel_rfl) (fun _ _ _ h => h) (Or.inl ⟨by rfl, ?_⟩) hS ?_
  rotate_left
  · intro w hSw; (try dsimp only at hSw); have qA := hSw.1.cell; have lA := hSw.1.lt; have qB := hSw.2.cell; have lB := hSw.2.lt; clear hSw; go_simp; (try with_reducible rfl)
  try simp only [Act.put, List.setIfInBounds_toArray, List.set_cons_zero, List.set_cons_succ]
  refine wpAnyE_takeL (i := 6) (v := ?_) rfl (by kernel_rfl) (fun _ _ _ h => h) (Or.inl ⟨by rfl, ?_⟩) hS ?_
  rotate_left
  · intro w hSw; (try dsimp only at hSw); have qA := hSw.1.cell; have lA := hSw.1.lt; have qB := hSw.2.cell; have lB := hSw.2.lt; clear hSw; go_simp; (try with_reducible rfl)
  try simp only [Act.put, List.setIfInBounds_toArray, List.set_cons_zero, List.set_cons_succ]
  refine wpAnyE_takeL (i := 9) (v := ?_) rfl (by kernel_rfl) (fun _ _ _ h => h) (Or.inl ⟨by rfl, ?_⟩) hS ?_
  rotate_left
  · intro w hSw; (try dsimp only at hSw); have qA := hSw.1.cell; have lA := hSw.1.lt; have qB := hSw.2.cell; have lB := hSw.2.lt; clear hSw; go_simp; (try with_reducible rfl)
  try simp only [Act.put, List.setIfInBounds_toArray, List.set_cons_zero, List.set_cons_succ]
  refine wpAnyE_takeL (i := 10) (v := ?_) rfl (by kernel_rfl) (fun _ _ _ h => h) (Or.inl ⟨by rfl, ?_⟩) hS ?_
  rotate_left
  · intro w hSw; (try dsimp only at hSw); have qA := hSw.1.cell; have lA := hSw.1.lt; have qB := hSw.2.cell; have lB := hSw.2.lt; clear hSw; go_simp; (try with_reducible rfl)
  try simp only [Act.put, List.setIfInBounds_toArray, List.set_cons_zero, List.set_cons_succ]
  obtain ⟨y0, hy0⟩ : ∃ q, q = w3.drew := ⟨_, rfl⟩
  have kEc : Blk y0 NB #[.int .i64 x.nets, .slice a1 x.ds.length c1, .slice a2 x.ps.length c2] 31 := by rw [hy0]; exact kN.drew
  have kRc : Blk y0 (NB + 1) #[.int .i64 0, .slice none 0 0, .slice none 0 0] 31 := by rw [hy0]; exact kR.drew
  have kDc : Blk y0 DB #[.int .i64 1, .slice (some ⟨G, 0, none⟩) 3 c5, .int .i64 WD, .int .i64 LN] 52 := by rw [hy0]; exact kD.drew
  have kGc : Blk y0 G cs 2 := by rw [hy0]; exact kG.drew
  have hGl := kG.lt
  have hbc : Below w3.heap.size w3 y0 := by rw [hy0]; exact (Below.refl _ w3).drew
  rw [← hy0]
  clear hy0 kN kR kD kG
  refine wpAnyE_twoL (k := 2) (k' := 7) (by kernel_rfl) rfl rfl (fun K hK => ?_) (fun K hK => ?_)
  · go_simp
    have hal : Below y0.heap.size y0 (y0.alloc (.cells #[] 52)) := (Below.refl _ y0).alloc (Nat.le_refl _) _
    have hz_LB : w3.heap.size ≤ y0.heap.size := hbc.size
    replace kEc := Blk.by hal kEc
    replace kRc := Blk.by hal kRc
    replace kDc := Blk.by hal kDc
    replace kGc := Blk.by hal kGc
    replace hbc := below_on hal hbc
    have kLc : Blk (y0.alloc (.cells #[] 52)) y0.heap.size #[] 52 := Blk.new _ rfl
    refine hK.out _ _ (fun _ => ⟨kEc, kDc⟩) ?_
    try simp only [Act.put, List.setIfInBounds_toArray, List.set_cons_zero, List.set_cons_succ]
    clear hal hK
    generalize y0.alloc (.cells #[] 52) = y1 at *
    generalize y0.heap.size = LB at *
    refine wpAnyE_twoL (k := 5) (k' := 7) (by kernel_rfl) rfl rfl (fun K hK => ?_) (fun K hK => ?_)
    · refine step_catD (by rfl) _ _ (by rfl) w LB LB (.slice a1 x.ds.length c1) x.ds (by rfl) (by rfl) kLc HD.out (below_on hbc hbz) (Nat.le_refl _) (by omega) ?_
      intro aa ca xs y2 HRc hdv hgr
      have hsW := hbc.size
      have hLW : LB ≤ y2.heap.size := Nat.le_trans (Nat.le_of_lt kLc.lt) hgr.size
      replace kEc : Blk y2 NB #[.int .i64 x.nets, .slice a1 x.ds.length c1, .slice a2 x.ps.length c2] 31 := (hgr.block _ kEc.lt (fun e => by have := Option.some.inj e; omega)).trans kEc
      replace kRc : Blk y2 (NB + 1) #[.int .i64 0, .slice none 0 0, .slice none 0 0] 31 := (hgr.block _ kRc.lt (fun e => by have := Option.some.inj e; omega)).trans kRc
      replace kDc : Blk y2 DB #[.int .i64 1, .slice (some ⟨G, 0, none⟩) 3 c5, .int .i64 WD, .int .i64 LN] 52 := (hgr.block _ kDc.lt (fun e => by have := Option.some.inj e; omega)).trans kDc
      replace kGc : Blk y2 G cs 2 := (hgr.block _ kGc.lt (fun e => by have := Option.some.inj e; omega)).trans kGc
      replace hbc : Below w3.heap.size w3 y2 := hbc.grown hgr hsW (fun q hq => by have := Option.some.inj hq; omega)
      refine hK.out _ _ (fun _ => ⟨kEc, kDc⟩) ?_
      try simp only [Act.put, List.setIfInBounds_toArray, List.set_cons_zero, List.set_cons_succ]
      clear hK hgr hsW
      refine wpAnyE_oneL (k := 7) (by kernel_rfl) rfl (fun K hK => ?_)
      go_simp
      have hal : Below y2.heap.size y2 (y2.alloc (.cells #[.int .i64 1, .slice (some ⟨G, 0, none⟩) 3 c5, .int .i64 WD, .int .i64 LN] 52)) := (Below.refl _ y2).alloc (Nat.le_refl _) _
      have hz_NN : w3.heap.size ≤ y2.heap.size := hbc.size
      replace kEc := Blk.by hal kEc
      replace kRc := Blk.by hal kRc
      replace kDc := Blk.by hal kDc
      replace kGc := Blk.by hal kGc
      replace HRc := row_same HRc (fun q hq => hal.block q (HRc.lt q hq).2)
      replace hbc := below_on hal hbc
      replace hLW := Nat.le_trans hLW hal.size
      have kNc : Blk (y2.alloc (.cells #[.int .i64 1, .slice (some ⟨G, 0, none⟩) 3 c5, .int .i64 WD, .int .i64 LN] 52)) y2.heap.size #[.int .i64 1, .slice (some ⟨G, 0, none⟩) 3 c5, .int .i64 WD, .int .i64 LN] 52 := Blk.new _ rfl
      refine hK.out _ _ (fun _ => ⟨kEc, kDc⟩) ?_
      try simp only [Act.put, List.setIfInBounds_toArray, List.set_cons_zero, List.set_cons_succ]
      clear hal hK
      generalize y2.alloc (.cells #[.int .i64 1, .slice (some ⟨G, 0, none⟩) 3 c5, .int .i64 WD, .int .i64 LN] 52) = y3 at *
      generalize y2.heap.size = NN at *
      refine wpAnyE_oneL (k := 8) (by kernel_rfl) rfl (fun K hK => ?_)
      refine step_oneD2 (by rfl) _ _ (by rfl) LB NN x.ds.length (.slice aa x.ds.length ca) (.slice (some ⟨G, 0, none⟩) 3 c5) xs 1 WD LN (by rfl) (by rfl) HRc rfl kNc hLW (by omega) ?_
      intro ab cb y4 HR2 hgr
      have hown := fun q (hq : (Value.slice aa x.ds.length ca).ownBlock = some q) => (HRc.lt q hq)
      have hsW := hbc.size
      replace kEc : Blk y4 NB #[.int .i64 x.nets, .slice a1 x.ds.length c1, .slice a2 x.ps.length c2] 31 := (hgr.block _ kEc.lt (fun e => by have := hown _ e.symm; omega)).trans kEc
      replace kRc : Blk y4 (NB + 1) #[.int .i64 0, .slice none 0 0, .slice none 0 0] 31 := (hgr.block _ kRc.lt (fun e => by have := hown _ e.symm; omega)).trans kRc
      replace kDc : Blk y4 DB #[.int .i64 1, .slice (some ⟨G, 0, none⟩) 3 c5, .int .i64 WD, .int .i64 LN] 52 := (hgr.block _ kDc.lt (fun e => by have := hown _ e.symm; omega)).trans kDc
      replace kGc : Blk y4 G cs 2 := (hgr.block _ kGc.lt (fun e => by have := hown _ e.symm; omega)).trans kGc
      replace hbc : Below w3.heap.size w3 y4 := hbc.grown hgr hsW (fun q hq => by have := hown _ hq; omega)
      refine hK.out _ _ (fun _ => ⟨kEc, kDc⟩) ?_
      try simp only [Act.put, List.setIfInBounds_toArray, List.set_cons_zero, List.set_cons_succ]
      clear hK hgr hsW hown HRc
      refine wpAnyE_oneL (k := 11) (by kernel_rfl) rfl (fun K hK => ?_)
      go_simp
      refine hK.out _ _ (fun _ => ⟨kEc, kDc⟩) ?_
      try simp only [Act.put, List.setIfInBounds_toArray, List.set_cons_zero, List.set_cons_succ]
      clear hK
      refine wpAnyE_oneL (k := 12) (by kernel_rfl) rfl (fun K hK => ?_)
      have cR := kRc.cell
      have fR := kRc.free
      have lR := kRc.lt
      go_simp
      have hne : ∀ q, (Value.slice ab (x.ds.length + 1) cb).ownBlock = some q → q ≠ NB + 1 := fun q hq => by have := HR2.lt q hq; omega
      have hne2 : DB ≠ NB + 1 := by omega
      have hne0 : NB ≠ NB + 1 := by omega
      have hNB1 : w.heap.size ≤ NB + 1 := by omega
      have HR3 : World.ownsRow (((y4.setCell ⟨NB + 1, 0, none⟩ (.int .i64 x.nets)).setCell ⟨NB + 1, 1, none⟩ (.slice ab (x.ds.length + 1) cb)).setCell ⟨NB + 1, 2, none⟩ (.slice a2 x.ps.length c2)) LB 52 4 (.slice ab (x.ds.length + 1) cb) (x.ds.length + 1) (xs ++ [.int .i64 1, .slice (some ⟨G, 0, none⟩) 3 c5, .int .i64 WD, .int .i64 LN]) := row_same (row_same (row_same HR2 (fun q hq => Below.heap_setCell _ ⟨NB + 1, 0, none⟩ _ q (hne q hq))) (fun q hq => Below.heap_setCell _ ⟨NB + 1, 1, none⟩ _ q (hne q hq))) (fun q hq => Below.heap_setCell _ ⟨NB + 1, 2, none⟩ _ q (hne q hq))
      have kRz : Blk (((y4.setCell ⟨NB + 1, 0, none⟩ (.int .i64 x.nets)).setCell ⟨NB + 1, 1, none⟩ (.slice ab (x.ds.length + 1) cb)).setCell ⟨NB + 1, 2, none⟩ (.slice a2 x.ps.length c2)) (NB + 1) #[.int .i64 x.nets, .slice ab (x.ds.length + 1) cb, .slice a2 x.ps.length c2] 31 := ((kRc.set 0 _).set 1 _).set 2 _
      have kGz : Blk (((y4.setCell ⟨NB + 1, 0, none⟩ (.int .i64 x.nets)).setCell ⟨NB + 1, 1, none⟩ (.slice ab (x.ds.length + 1) cb)).setCell ⟨NB + 1, 2, none⟩ (.slice a2 x.ps.length c2)) G cs 2 := ((kGc.apart _ _ _ hGR).apart _ _ _ hGR).apart _ _ _ hGR
      have hbw : Below w.heap.size w (((y4.setCell ⟨NB + 1, 0, none⟩ (.int .i64 x.nets)).setCell ⟨NB + 1, 1, none⟩ (.slice ab (x.ds.length + 1) cb)).setCell ⟨NB + 1, 2, none⟩ (.slice a2 x.ps.length c2)) := (((below_on hbc hbz).setCell hNB1 _).setCell hNB1 _).setCell hNB1 _
      refine hK.out _ _ (fun _ => ⟨((kEc.apart _ _ _ hne0).apart _ _ _ hne0).apart _ _ _ hne0, ((kDc.apart _ _ _ hne2).apart _ _ _ hne2).apart _ _ _ hne2⟩) ?_
      try simp only [Act.put, List.setIfInBounds_toArray, List.set_cons_zero, List.set_cons_succ]
      clear hK cR fR lR hne hne2 HR2
      generalize ((y4.setCell ⟨NB + 1, 0, none⟩ (.int .i64 x.nets)).setCell ⟨NB + 1, 1, none⟩ (.slice ab (x.ds.length + 1) cb)).setCell ⟨NB + 1, 2, none⟩ (.slice a2 x.ps.length c2) = y5 at *
      refine wpAnyE_oneL (k := 13) (by kernel_rfl) rfl (fun K hK => ?_)
      go_simp
      refine hK.out _ _ (fun h => absurd rfl h) ?_
      refine wpAnyE_done (by kernel_rfl) ?_ _
      clear hS
      have cRz := kRz.cell
      have lRz := kRz.lt
      have HFI := Lib.hid (row_sl2 (d := ⟨1, zs.take 3, WD, LN⟩) HR3 rfl hdv hbw (pins_of kGz HCE.out (HZ.out) hl2))
      go_wp2
      refine bodyPost_ret (v := .tuple #[.agg #[.int .i64 x.nets, .slice ab (x.ds.length + 1) cb, .slice a2 x.ps.length c2], .bool true]) (by simp [results, Tryd.results33, go_sem, *]) rfl ⟨_, by rw [HL.out]; rfl, fun y hy => ?_, hbw, _, _, _, _, _, _, _, rfl⟩
      rw [HL.out] at hy
      obtain rfl := (Option.some.inj hy).symm
      exact ⟨_, _, rfl, HFI.out, HP.out.by hbw⟩
    · go_simp
      have hal : Below y1.heap.size y1 (y1.alloc (.cells #[.int .i64 1, .slice (some ⟨G, 0, none⟩) 3 c5, .int .i64 WD, .int .i64 LN] 52)) := (Below.refl _ y1).alloc (Nat.le_refl _) _
      have hz_NN : w3.heap.size ≤ y1.heap.size := hbc.size
      have hLN : LB < y1.heap.size := kLc.lt
      replace kEc := Blk.by hal kEc
      replace kRc := Blk.by hal kRc
      replace kDc := Blk.by hal kDc
      replace kGc := Blk.by hal kGc
      replace kLc := Blk.by hal kLc
      replace hbc := below_on hal hbc
      have kNc : Blk (y1.alloc (.cells #[.int .i64 1, .slice (some ⟨G, 0, none⟩) 3 c5, .int .i64 WD, .int .i64 LN] 52)) y1.heap.size #[.int .i64 1, .slice (some ⟨G, 0, none⟩) 3 c5, .int .i64 WD, .int .i64 LN] 52 := Blk.new _ rfl
      refine hK.out _ _ (fun _ => ⟨kEc, kDc⟩) ?_
      try simp only [Act.put, List.setIfInBounds_toArray, List.set_cons_zero, List.set_cons_succ]
      clear hal hK
      generalize y1.alloc (.cells #[.int .i64 1, .slice (some ⟨G, 0, none⟩) 3 c5, .int .i64 WD, .int .i64 LN] 52) = y10 at *
      generalize y1.heap.size = NN at *
      refine wpAnyE_oneL (k := 5) (by kernel_rfl) rfl (fun K hK => ?_)
      refine step_catD (by rfl) _ _ (by rfl) w LB LB (.slice a1 x.ds.length c1) x.ds (by rfl) (by rfl) kLc HD.out (below_on hbc hbz) (Nat.le_refl _) (by omega) ?_
      intro aa ca xs y11 HRc hdv hgr
      have hsW := hbc.size
      have hLW : LB ≤ y11.heap.size := Nat.le_trans (Nat.le_of_lt kLc.lt) hgr.size
      replace kNc : Blk y11 NN #[.int .i64 1, .slice (some ⟨G, 0, none⟩) 3 c5, .int .i64 WD, .int .i64 LN] 52 := (hgr.block _ kNc.lt (fun e => by have := Option.some.inj e; omega)).trans kNc
      replace kEc : Blk y11 NB #[.int .i64 x.nets, .slice a1 x.ds.length c1, .slice a2 x.ps.length c2] 31 := (hgr.block _ kEc.lt (fun e => by have := Option.some.inj e; omega)).trans kEc
      replace kRc : Blk y11 (NB + 1) #[.int .i64 0, .slice none 0 0, .slice none 0 0] 31 := (hgr.block _ kRc.lt (fun e => by have := Option.some.inj e; omega)).trans kRc
      replace kDc : Blk y11 DB #[.int .i64 1, .slice (some ⟨G, 0, none⟩) 3 c5, .int .i64 WD, .int .i64 LN] 52 := (hgr.block _ kDc.lt (fun e => by have := Option.some.inj e; omega)).trans kDc
      replace kGc : Blk y11 G cs 2 := (hgr.block _ kGc.lt (fun e => by have := Option.some.inj e; omega)).trans kGc
      replace hbc : Below w3.heap.size w3 y11 := hbc.grown hgr hsW (fun q hq => by have := Option.some.inj hq; omega)
      refine hK.out _ _ (fun _ => ⟨kEc, kDc⟩) ?_
      try simp only [Act.put, List.setIfInBounds_toArray, List.set_cons_zero, List.set_cons_succ]
      clear hK hgr hsW
      refine wpAnyE_oneL (k := 8) (by kernel_rfl) rfl (fun K hK => ?_)
      refine step_oneD2 (by rfl) _ _ (by rfl) LB NN x.ds.length (.slice aa x.ds.length ca) (.slice (some ⟨G, 0, none⟩) 3 c5) xs 1 WD LN (by rfl) (by rfl) HRc rfl kNc hLW (by omega) ?_
      intro ab cb y12 HR2 hgr
      have hown := fun q (hq : (Value.slice aa x.ds.length ca).ownBlock = some q) => (HRc.lt q hq)
      have hsW := hbc.size
      replace kEc : Blk y12 NB #[.int .i64 x.nets, .slice a1 x.ds.length c1, .slice a2 x.ps.length c2] 31 := (hgr.block _ kEc.lt (fun e => by have := hown _ e.symm; omega)).trans kEc
      replace kRc : Blk y12 (NB + 1) #[.int .i64 0, .slice none 0 0, .slice none 0 0] 31 := (hgr.block _ kRc.lt (fun e => by have := hown _ e.symm; omega)).trans kRc
      replace kDc : Blk y12 DB #[.int .i64 1, .slice (some ⟨G, 0, none⟩) 3 c5, .int .i64 WD, .int .i64 LN] 52 := (hgr.block _ kDc.lt (fun e => by have := hown _ e.symm; omega)).trans kDc
      replace kGc : Blk y12 G cs 2 := (hgr.block _ kGc.lt (fun e => by have := hown _ e.symm; omega)).trans kGc
      replace hbc : Below w3.heap.size w3 y12 := hbc.grown hgr hsW (fun q hq => by have := hown _ hq; omega)
      refine hK.out _ _ (fun _ => ⟨kEc, kDc⟩) ?_
      try simp only [Act.put, List.setIfInBounds_toArray, List.set_cons_zero, List.set_cons_succ]
      clear hK hgr hsW hown HRc
      refine wpAnyE_oneL (k := 11) (by kernel_rfl) rfl (fun K hK => ?_)
      go_simp
      refine hK.out _ _ (fun _ => ⟨kEc, kDc⟩) ?_
      try simp only [Act.put, List.setIfInBounds_toArray, List.set_cons_zero, List.set_cons_succ]
      clear hK
      refine wpAnyE_oneL (k := 12) (by kernel_rfl) rfl (fun K hK => ?_)
      have cR := kRc.cell
      have fR := kRc.free
      have lR := kRc.lt
      go_simp
      have hne : ∀ q, (Value.slice ab (x.ds.length + 1) cb).ownBlock = some q → q ≠ NB + 1 := fun q hq => by have := HR2.lt q hq; omega
      have hne2 : DB ≠ NB + 1 := by omega
      have hne0 : NB ≠ NB + 1 := by omega
      have hNB1 : w.heap.size ≤ NB + 1 := by omega
      have HR3 : World.ownsRow (((y12.setCell ⟨NB + 1, 0, none⟩ (.int .i64 x.nets)).setCell ⟨NB + 1, 1, none⟩ (.slice ab (x.ds.length + 1) cb)).setCell ⟨NB + 1, 2, none⟩ (.slice a2 x.ps.length c2)) LB 52 4 (.slice ab (x.ds.length + 1) cb) (x.ds.length + 1) (xs ++ [.int .i64 1, .slice (some ⟨G, 0, none⟩) 3 c5, .int .i64 WD, .int .i64 LN]) := row_same (row_same (row_same HR2 (fun q hq => Below.heap_setCell _ ⟨NB + 1, 0, none⟩ _ q (hne q hq))) (fun q hq => Below.heap_setCell _ ⟨NB + 1, 1, none⟩ _ q (hne q hq))) (fun q hq => Below.heap_setCell _ ⟨NB + 1, 2, none⟩ _ q (hne q hq))
      have kRz : Blk (((y12.setCell ⟨NB + 1, 0, none⟩ (.int .i64 x.nets)).setCell ⟨NB + 1, 1, none⟩ (.slice ab (x.ds.length + 1) cb)).setCell ⟨NB + 1, 2, none⟩ (.slice a2 x.ps.length c2)) (NB + 1) #[.int .i64 x.nets, .slice ab (x.ds.length + 1) cb, .slice a2 x.ps.length c2] 31 := ((kRc.set 0 _).set 1 _).set 2 _
      have kGz : Blk (((y12.setCell ⟨NB + 1, 0, none⟩ (.int .i64 x.nets)).setCell ⟨NB + 1, 1, none⟩ (.slice ab (x.ds.length + 1) cb)).setCell ⟨NB + 1, 2, none⟩ (.slice a2 x.ps.length c2)) G cs 2 := ((kGc.apart _ _ _ hGR).apart _ _ _ hGR).apart _ _ _ hGR
      have hbw : Below w.heap.size w (((y12.setCell ⟨NB + 1, 0, none⟩ (.int .i64 x.nets)).setCell ⟨NB + 1, 1, none⟩ (.slice ab (x.ds.length + 1) cb)).setCell ⟨NB + 1, 2, none⟩ (.slice a2 x.ps.length c2)) := (((below_on hbc hbz).setCell hNB1 _).setCell hNB1 _).setCell hNB1 _
      refine hK.out _ _ (fun _ => ⟨((kEc.apart _ _ _ hne0).apart _ _ _ hne0).apart _ _ _ hne0, ((kDc.apart _ _ _ hne2).apart _ _ _ hne2).apart _ _ _ hne2⟩) ?_
      try simp only [Act.put, List.setIfInBounds_toArray, List.set_cons_zero, List.set_cons_succ]
      clear hK cR fR lR hne hne2 HR2
      generalize ((y12.setCell ⟨NB + 1, 0, none⟩ (.int .i64 x.nets)).setCell ⟨NB + 1, 1, none⟩ (.slice ab (x.ds.length + 1) cb)).setCell ⟨NB + 1, 2, none⟩ (.slice a2 x.ps.length c2) = y13 at *
      refine wpAnyE_oneL (k := 13) (by kernel_rfl) rfl (fun K hK => ?_)
      go_simp
      refine hK.out _ _ (fun h => absurd rfl h) ?_
      refine wpAnyE_done (by kernel_rfl) ?_ _
      clear hS
      have cRz := kRz.cell
      have lRz := kRz.lt
      have HFI := Lib.hid (row_sl2 (d := ⟨1, zs.take 3, WD, LN⟩) HR3 rfl hdv hbw (pins_of kGz HCE.out (HZ.out) hl2))
      go_wp2
      refine bodyPost_ret (v := .tuple #[.agg #[.int .i64 x.nets, .slice ab (x.ds.length + 1) cb, .slice a2 x.ps.length c2], .bool true]) (by simp [results, Tryd.results33, go_sem, *]) rfl ⟨_, by rw [HL.out]; rfl, fun y hy => ?_, hbw, _, _, _, _, _, _, _, rfl⟩
      rw [HL.out] at hy
      obtain rfl := (Option.some.inj hy).symm
      exact ⟨_, _, rfl, HFI.out, HP.out.by hbw⟩
  · go_simp
    have hal : Below y0.heap.size y0 (y0.alloc (.cells #[.int .i64 1, .slice (some ⟨G, 0, none⟩) 3 c5, .int .i64 WD, .int .i64 LN] 52)) := (Below.refl _ y0).alloc (Nat.le_refl _) _
    have hz_NN : w3.heap.size ≤ y0.heap.size := hbc.size
    replace kEc := Blk.by hal kEc
    replace kRc := Blk.by hal kRc
    replace kDc := Blk.by hal kDc
    replace kGc := Blk.by hal kGc
    replace hbc := below_on hal hbc
    have kNc : Blk (y0.alloc (.cells #[.int .i64 1, .slice (some ⟨G, 0, none⟩) 3 c5, .int .i64 WD, .int .i64 LN] 52)) y0.heap.size #[.int .i64 1, .slice (some ⟨G, 0, none⟩) 3 c5, .int .i64 WD, .int .i64 LN] 52 := Blk.new _ rfl
    refine hK.out _ _ (fun _ => ⟨kEc, kDc⟩) ?_
    try simp only [Act.put, List.setIfInBounds_toArray, List.set_cons_zero, List.set_cons_succ]
    clear hal hK
    generalize y0.alloc (.cells #[.int .i64 1, .slice (some ⟨G, 0, none⟩) 3 c5, .int .i64 WD, .int .i64 LN] 52) = y18 at *
    generalize y0.heap.size = NN at *
    refine wpAnyE_oneL (k := 2) (by kernel_rfl) rfl (fun K hK => ?_)
    go_simp
    have hal : Below y18.heap.size y18 (y18.alloc (.cells #[] 52)) := (Below.refl _ y18).alloc (Nat.le_refl _) _
    have hz_LB : w3.heap.size ≤ y18.heap.size := hbc.size
    have hNL : NN < y18.heap.size := kNc.lt
    replace kEc := Blk.by hal kEc
    replace kRc := Blk.by hal kRc
    replace kDc := Blk.by hal kDc
    replace kGc := Blk.by hal kGc
    replace kNc := Blk.by hal kNc
    replace hbc := below_on hal hbc
    have kLc : Blk (y18.alloc (.cells #[] 52)) y18.heap.size #[] 52 := Blk.new _ rfl
    refine hK.out _ _ (fun _ => ⟨kEc, kDc⟩) ?_
    try simp only [Act.put, List.setIfInBounds_toArray, List.set_cons_zero, List.set_cons_succ]
    clear hal hK
    generalize y18.alloc (.cells #[] 52) = y19 at *
    generalize y18.heap.size = LB at *
    refine wpAnyE_oneL (k := 5) (by kernel_rfl) rfl (fun K hK => ?_)
    refine step_catD (by rfl) _ _ (by rfl) w LB LB (.slice a1 x.ds.length c1) x.ds (by rfl) (by rfl) kLc HD.out (below_on hbc hbz) (Nat.le_refl _) (by omega) ?_
    intro aa ca xs y20 HRc hdv hgr
    have hsW := hbc.size
    have hLW : LB ≤ y20.heap.size := Nat.le_trans (Nat.le_of_lt kLc.lt) hgr.size
    replace kNc : Blk y20 NN #[.int .i64 1, .slice (some ⟨G, 0, none⟩) 3 c5, .int .i64 WD, .int .i64 LN] 52 := (hgr.block _ kNc.lt (fun e => by have := Option.some.inj e; omega)).trans kNc
    replace kEc : Blk y20 NB #[.int .i64 x.nets, .slice a1 x.ds.length c1, .slice a2 x.ps.length c2] 31 := (hgr.block _ kEc.lt (fun e => by have := Option.some.inj e; omega)).trans kEc
    replace kRc : Blk y20 (NB + 1) #[.int .i64 0, .slice none 0 0, .slice none 0 0] 31 := (hgr.block _ kRc.lt (fun e => by have := Option.some.inj e; omega)).trans kRc
    replace kDc : Blk y20 DB #[.int .i64 1, .slice (some ⟨G, 0, none⟩) 3 c5, .int .i64 WD, .int .i64 LN] 52 := (hgr.block _ kDc.lt (fun e => by have := Option.some.inj e; omega)).trans kDc
    replace kGc : Blk y20 G cs 2 := (hgr.block _ kGc.lt (fun e => by have := Option.some.inj e; omega)).trans kGc
    replace hbc : Below w3.heap.size w3 y20 := hbc.grown hgr hsW (fun q hq => by have := Option.some.inj hq; omega)
    refine hK.out _ _ (fun _ => ⟨kEc, kDc⟩) ?_
    try simp only [Act.put, List.setIfInBounds_toArray, List.set_cons_zero, List.set_cons_succ]
    clear hK hgr hsW
    refine wpAnyE_oneL (k := 8) (by kernel_rfl) rfl (fun K hK => ?_)
    refine step_oneD2 (by rfl) _ _ (by rfl) LB NN x.ds.length (.slice aa x.ds.length ca) (.slice (some ⟨G, 0, none⟩) 3 c5) xs 1 WD LN (by rfl) (by rfl) HRc rfl kNc hLW (by omega) ?_
    intro ab cb y21 HR2 hgr
    have hown := fun q (hq : (Value.slice aa x.ds.length ca).ownBlock = some q) => (HRc.lt q hq)
    have hsW := hbc.size
    replace kEc : Blk y21 NB #[.int .i64 x.nets, .slice a1 x.ds.length c1, .slice a2 x.ps.length c2] 31 := (hgr.block _ kEc.lt (fun e => by have := hown _ e.symm; omega)).trans kEc
    replace kRc : Blk y21 (NB + 1) #[.int .i64 0, .slice none 0 0, .slice none 0 0] 31 := (hgr.block _ kRc.lt (fun e => by have := hown _ e.symm; omega)).trans kRc
    replace kDc : Blk y21 DB #[.int .i64 1, .slice (some ⟨G, 0, none⟩) 3 c5, .int .i64 WD, .int .i64 LN] 52 := (hgr.block _ kDc.lt (fun e => by have := hown _ e.symm; omega)).trans kDc
    replace kGc : Blk y21 G cs 2 := (hgr.block _ kGc.lt (fun e => by have := hown _ e.symm; omega)).trans kGc
    replace hbc : Below w3.heap.size w3 y21 := hbc.grown hgr hsW (fun q hq => by have := hown _ hq; omega)
    refine hK.out _ _ (fun _ => ⟨kEc, kDc⟩) ?_
    try simp only [Act.put, List.setIfInBounds_toArray, List.set_cons_zero, List.set_cons_succ]
    clear hK hgr hsW hown HRc
    refine wpAnyE_oneL (k := 11) (by kernel_rfl) rfl (fun K hK => ?_)
    go_simp
    refine hK.out _ _ (fun _ => ⟨kEc, kDc⟩) ?_
    try simp only [Act.put, List.setIfInBounds_toArray, List.set_cons_zero, List.set_cons_succ]
    clear hK
    refine wpAnyE_oneL (k := 12) (by kernel_rfl) rfl (fun K hK => ?_)
    have cR := kRc.cell
    have fR := kRc.free
    have lR := kRc.lt
    go_simp
    have hne : ∀ q, (Value.slice ab (x.ds.length + 1) cb).ownBlock = some q → q ≠ NB + 1 := fun q hq => by have := HR2.lt q hq; omega
    have hne2 : DB ≠ NB + 1 := by omega
    have hne0 : NB ≠ NB + 1 := by omega
    have hNB1 : w.heap.size ≤ NB + 1 := by omega
    have HR3 : World.ownsRow (((y21.setCell ⟨NB + 1, 0, none⟩ (.int .i64 x.nets)).setCell ⟨NB + 1, 1, none⟩ (.slice ab (x.ds.length + 1) cb)).setCell ⟨NB + 1, 2, none⟩ (.slice a2 x.ps.length c2)) LB 52 4 (.slice ab (x.ds.length + 1) cb) (x.ds.length + 1) (xs ++ [.int .i64 1, .slice (some ⟨G, 0, none⟩) 3 c5, .int .i64 WD, .int .i64 LN]) := row_same (row_same (row_same HR2 (fun q hq => Below.heap_setCell _ ⟨NB + 1, 0, none⟩ _ q (hne q hq))) (fun q hq => Below.heap_setCell _ ⟨NB + 1, 1, none⟩ _ q (hne q hq))) (fun q hq => Below.heap_setCell _ ⟨NB + 1, 2, none⟩ _ q (hne q hq))
    have kRz : Blk (((y21.setCell ⟨NB + 1, 0, none⟩ (.int .i64 x.nets)).setCell ⟨NB + 1, 1, none⟩ (.slice ab (x.ds.length + 1) cb)).setCell ⟨NB + 1, 2, none⟩ (.slice a2 x.ps.length c2)) (NB + 1) #[.int .i64 x.nets, .slice ab (x.ds.length + 1) cb, .slice a2 x.ps.length c2] 31 := ((kRc.set 0 _).set 1 _).set 2 _
    have kGz : Blk (((y21.setCell ⟨NB + 1, 0, none⟩ (.int .i64 x.nets)).setCell ⟨NB + 1, 1, none⟩ (.slice ab (x.ds.length + 1) cb)).setCell ⟨NB + 1, 2, none⟩ (.slice a2 x.ps.length c2)) G cs 2 := ((kGc.apart _ _ _ hGR).apart _ _ _ hGR).apart _ _ _ hGR
    have hbw : Below w.heap.size w (((y21.setCell ⟨NB + 1, 0, none⟩ (.int .i64 x.nets)).setCell ⟨NB + 1, 1, none⟩ (.slice ab (x.ds.length + 1) cb)).setCell ⟨NB + 1, 2, none⟩ (.slice a2 x.ps.length c2)) := (((below_on hbc hbz).setCell hNB1 _).setCell hNB1 _).setCell hNB1 _
    refine hK.out _ _ (fun _ => ⟨((kEc.apart _ _ _ hne0).apart _ _ _ hne0).apart _ _ _ hne0, ((kDc.apart _ _ _ hne2).apart _ _ _ hne2).apart _ _ _ hne2⟩) ?_
    try simp only [Act.put, List.setIfInBounds_toArray, List.set_cons_zero, List.set_cons_succ]
    clear hK cR fR lR hne hne2 HR2
    generalize ((y21.setCell ⟨NB + 1, 0, none⟩ (.int .i64 x.nets)).setCell ⟨NB + 1, 1, none⟩ (.slice ab (x.ds.length + 1) cb)).setCell ⟨NB + 1, 2, none⟩ (.slice a2 x.ps.length c2) = y22 at *
    refine wpAnyE_oneL (k := 13) (by kernel_rfl) rfl (fun K hK => ?_)
    go_simp
    refine hK.out _ _ (fun h => absurd rfl h) ?_
    refine wpAnyE_done (by kernel_rfl) ?_ _
    clear hS
    have cRz := kRz.cell
    have lRz := kRz.lt
    have HFI := Lib.hid (row_sl2 (d := ⟨1, zs.take 3, WD, LN⟩) HR3 rfl hdv hbw (pins_of kGz HCE.out (HZ.out) hl2))
    go_wp2
    refine bodyPost_ret (v := .tuple #[.agg #[.int .i64 x.nets, .slice ab (x.ds.length + 1) cb, .slice a2 x.ps.length c2], .bool true]) (by simp [results, Tryd.results33, go_sem, *]) rfl ⟨_, by rw [HL.out]; rfl, fun y hy => ?_, hbw, _, _, _, _, _, _, _, rfl⟩
    rw [HL.out] at hy
    obtain rfl := (Option.some.inj hy).symm
    exact ⟨_, _, rfl, HFI.out, HP.out.by hbw⟩

set_option maxRecDepth 100000 in
set_option maxHeartbeats 8000000 in
theorem line_d4_2 (x : Nl) (v : Value) (a0 : Option Addr) (n c : Nat) (s0 : ByteArray) (r : List ByteArray) (w : World) (h : NlV w v x) (hw : StrSl w (.slice a0 n c) (s0 :: r)) (zs : List Int) (WD LN : Int) (hk : ¬ s0.data.toList = wPortL) (hs : ∀ y ∈ r, y.size ≤ 1048576) (hr : r.length ≤ 1048577) (hkl : kindL s0.data.toList = some 2)
    (hn : numsL (lsts r) = some zs) (hz : zs.length = 4) (hwd : zs[2]? = some WD) (hln : zs[3]? = some LN) (hd50 : x.ds.length ≤ 50) :
    Calls Tryd.prog 33 #[v, .slice a0 n c] w fun e w' => ∃ v', e = .returned (.tuple #[v', .bool (lineL false x (lsts (s0 :: r))).isSome]) ∧ (∀ y, lineL false x (lsts (s0 :: r)) = some y → NlV w' v' y) ∧ Below w.heap.size w w' ∧ ShNl v' := by
  have hkz : kindZ s0 = 2 := by unfold kindZ; rw [hkl]; rfl
  have HL : Hid (lineL false x (lsts (s0 :: r)) = some { x with ds := x.ds ++ [⟨2, zs.take 2, WD, LN⟩] }) := Lib.hid (by
    unfold lsts lineL
    simp only [List.map_cons, hk, Bool.false_eq_true, if_false, hkl]
    rw [show numsL (r.map fun b : ByteArray => b.data.toList) = some zs from hn]
    dsimp only
    rw [show pinN 2 = 2 from rfl, if_pos hz, hwd, hln]
    rfl)
  have hrl : r.length = 4 := by have := (numsL_words hn).1; rw [hz] at this; simpa [lsts] using this.symm
  obtain ⟨g, o, rfl, hn0⟩ := str_at hw
  obtain ⟨s1, s2, rfl, hd, hp⟩ := h
  obtain ⟨a1, c1, rfl⟩ := hd.sized
  obtain ⟨a2, c2, rfl⟩ := hp.sized
  obtain ⟨k, hk0⟩ : ∃ k, r.length = k := ⟨_, rfl⟩
  rw [hk0] at hn0
  subst hn0
  obtain ⟨-, hc1, hwt⟩ := hw.tail
  rw [show k + 1 - 1 = k by omega] at hwt
  have q0 : w.cell? ⟨g, o, none⟩ = some (.string s0) := str_cell hw 0 s0 rfl
  have e0 : (s0.toList == ([112, 111, 114, 116] : List UInt8)) = false := by rw [port_word, decide_eq_false hk]
  have e1 : (0 : Int) < (((k + 1 : Nat)) : Int) := by omega
  have e2 : k + 1 ≤ c := by
    rcases hwt with ⟨_, _, h1, h2⟩ | ⟨_, _, _, h1, h2, _⟩
    · simp only [Value.slice.injEq] at h1; omega
    · simp only [Value.slice.injEq] at h1; omega
  have lg := lt_of_cell q0
  dsimp only at lg
  have q0x : ∀ X Y Z : Obj, (((w.alloc X).alloc Y).alloc Z).cell? ⟨g, o, none⟩ = some (.string s0) := fun X Y Z => cell_by' (below_al (below_al (below_al (Below.refl _ w) X) Y) Z) q0
  have hcase : (c - 1 = 0 ∧ StrSl w (.slice (some ⟨g, o, none⟩) k 0) r) ∨ (¬ c - 1 = 0 ∧ StrSl w (.slice (some ⟨g, o + 1, none⟩) k (c - 1)) r) := by
    by_cases h : c - 1 = 0
    · refine .inl ⟨h, .inl ⟨some ⟨g, o, none⟩, 0, ?_, ?_⟩⟩
      · rw [show k = 0 by omega]
      · exact List.eq_nil_of_length_eq_zero (by omega)
    · exact .inr ⟨h, hwt⟩
  have HNU := Lib.hid (fun v w h => l27Numbers_any v r w h hs (by omega))
  have HFI := Lib.hid (fun b w h => l16Find_any b s0 w h)
  obtain ⟨K, hK⟩ : ∃ K, kindZ s0 = K := ⟨_, rfl⟩
  rw [hK] at HFI
  have HD := Lib.hid hd
  have HP := Lib.hid hp
  have HK0 := Lib.hid hk0
  clear hd hp hw hwt hk0
  rcases hcase with ⟨hcz, hwt⟩ | ⟨hcz, hwt⟩
  · exfalso
    have := HK0.out
    omega
  simp only [hn, Option.isSome_some, Option.getD_some] at HNU
  have HZ := Lib.hid hz
  have HWD := Lib.hid (And.intro hwd hln)
  obtain rfl : k = 4 := by rw [← HK0.out]; exact hrl
  obtain rfl : K = 2 := by rw [← hK, hkz]
  clear hK hk hkz hkl hn hz hwd hln hrl
  have HWT := Lib.hid hwt
  clear hwt
  go_enter Tryd.func33, Tryd.ntmps33
  go_wp2_with fail
  refine (HFI.out (w.heap.size + 1 + 1) _ ?_).mono ?_
  · exact Blk.new _ (by simp)
  rintro e w1 ⟨rfl, hb1⟩
  have hz1 := hb1.size
  simp only [World.size_alloc] at hz1
  have hb : Below w.heap.size w w1 := (by ((repeat (first | (with_reducible exact Below.refl _ _) | (with_reducible refine below_drewN ?_ _) | (with_reducible refine Below.drew ?_) | (with_reducible refine below_al ?_ _) | (with_reducible refine below_on (by assumption) ?_) | ((with_reducible refine Below.setCell ?_ ?_ _); rotate_left; focus (first | omega | (simp; done) | (simp; omega))) | (with_reducible assumption))); done))
  have kN : Blk w1 w.heap.size #[.int .i64 x.nets, .slice a1 x.ds.length c1, .slice a2 x.ps.length c2] 31 := Blk.by hb1 (((Blk.new _ rfl).past _).past _)
  have kR : Blk w1 (w.heap.size + 1) #[.int .i64 0, .slice none 0 0, .slice none 0 0] 31 := Blk.by hb1 ((Blk.new _ (by simp)).past _)
  clear hb1 q0 q0x lg e0
  go_wp2_with fail
  refine (HNU.out _ _ (HWT.out.by hb)).mono ?_
  rintro e w2 ⟨v2, rfl, hB2, hb2⟩
  rcases hB2.own with ⟨_, _, _, h0⟩ | ⟨G, c5, cs, rfl, hG1, hG2, hl1, hl2, hBk, hcell⟩
  · have := HZ.out; rw [h0] at this; simp at this
  rw [HZ.out] at hl1 ⊢
  replace kN := Blk.by hb2 kN
  replace kR := Blk.by hb2 kR
  have hbz := below_on hb2 hb
  have p1 : w2.cell? ⟨G, 2, none⟩ = some (.int .i64 WD) := (hBk.cell _).trans (hcell _ _ HWD.out.1)
  have p2 : w2.cell? ⟨G, 3, none⟩ = some (.int .i64 LN) := (hBk.cell _).trans (hcell _ _ HWD.out.2)
  have HPI : Hid (IntSl w2 (.slice (some ⟨G, 0, none⟩) 2 c5) (zs.take 2)) := Lib.hid (.inr ⟨G, 0, c5, by rw [List.length_take, HZ.out]; rfl, by rw [List.length_take]; omega, hl2, fun i y hy => by
    rw [Nat.zero_add, hBk.cell]
    exact hcell i y (by
      have := (List.getElem?_eq_some_iff.1 hy).1
      rw [List.length_take] at this
      rw [List.getElem?_take_of_lt (by omega)] at hy
      exact hy)⟩)
  have hc53 : (2 : Int) ≤ (c5 : Int) := by omega
  have hw4 : IntKind.i64.wrap 3 = 3 := rfl
  have HCE := Lib.hid hcell
  have kG := hBk
  clear hb hb2 hz1 hB2 hBk hcell HWT
  have hal5 : Below w2.heap.size w2 (w2.alloc (.cells #[.int .i64 5, .int .i64 5, .int .i64 4] 3)) := (Below.refl _ w2).alloc (Nat.le_refl _) _
  replace kN := Blk.by hal5 kN
  replace kR := Blk.by hal5 kR
  replace hbz := below_on hal5 hbz
  replace p1 := cell_by' hal5 p1
  replace kG := Blk.by hal5 kG
  replace p2 := cell_by' hal5 p2
  replace HPI := Lib.hid (HPI.out.by hal5)
  clear hal5
  go_upto_region 12 with fail
  generalize w2.alloc (.cells #[.int .i64 5, .int .i64 5, .int .i64 4] 3) = w2n at *
  have hS : (fun w' : World => w'.cell? ⟨G, 2, none⟩ = some (.int .i64 WD) ∧ w'.cell? ⟨G, 3, none⟩ = some (.int .i64 LN)) { w2n with drawn := w2n.drawn + 1 } := ⟨p1, p2⟩
  refine wp_region_any (by kernel_rfl) (wpAny_of_E (S := (fun w' : World => w'.cell? ⟨G, 2, none⟩ = some (.int .i64 WD) ∧ w'.cell? ⟨G, 3, none⟩ = some (.int .i64 LN))) (l := 15) _ _ _ _ ?_)
  change wpAnyE _ _ _ _ _ _ _ _ _ w2n.drew
  refine wpAnyE_takeL (i := 0) (v := ?_) rfl (by kernel_rfl) (fun _ _ _ h => h) (Or.inl ⟨by rfl, ?_⟩) hS ?_
  rotate_left
  · intro w hSw; (try dsimp only at hSw); have qA := hSw.1; have qB := hSw.2; have lA := lt_of_cell qA; clear hSw; go_simp; (try with_reducible rfl)
  try simp only [Act.put, List.setIfInBounds_toArray, List.set_cons_zero, List.set_cons_succ]
  refine wpAnyE_takeL (i := 1) (v := ?_) rfl (by kernel_rfl) (fun _ _ _ h => h) (Or.inl ⟨by rfl, ?_⟩) hS ?_
  rotate_left
  · intro w hSw; (try dsimp only at hSw); have qA := hSw.1; have qB := hSw.2; have lA := lt_of_cell qA; clear hSw; go_simp; (try with_reducible rfl)
  try simp only [Act.put, List.setIfInBounds_toArray, List.set_cons_zero, List.set_cons_succ]
  refine wpAnyE_takeL (i := 2) (v := ?_) rfl (by kernel_rfl) (fun _ _ _ h => h) (Or.inl ⟨by rfl, ?_⟩) hS ?_
  rotate_left
  · intro w hSw; (try dsimp only at hSw); have qA := hSw.1; have qB := hSw.2; have lA := lt_of_cell qA; clear hSw; go_simp; (try with_reducible rfl)
  try simp only [Act.put, List.setIfInBounds_toArray, List.set_cons_zero, List.set_cons_succ]
  refine wpAnyE_takeL (i := 3) (v := ?_) rfl (by kernel_rfl) (fun _ _ _ h => h) (Or.inl ⟨by rfl, ?_⟩) hS ?_
  rotate_left
  · intro w hSw; (try dsimp only at hSw); have qA := hSw.1; have qB := hSw.2; have lA := lt_of_cell qA; clear hSw; go_simp; (try with_reducible rfl)
  try simp only [Act.put, List.setIfInBounds_toArray, List.set_cons_zero, List.set_cons_succ]
  refine wpAnyE_takeL (i := 4) (v := ?_) rfl (by kernel_rfl) (fun _ _ _ h => h) (Or.inl ⟨by rfl, ?_⟩) hS ?_
  rotate_left
  · intro w hSw; (try dsimp only at hSw); have qA := hSw.1; have qB := hSw.2; have lA := lt_of_cell qA; clear hSw; go_simp; (try with_reducible rfl)
  try simp only [Act.put, List.setIfInBounds_toArray, List.set_cons_zero, List.set_cons_succ]
  refine wpAnyE_takeL (i := 5) (v := ?_) rfl (by kernel_rfl) (fun _ _ _ h => h) (Or.inl ⟨by rfl, ?_⟩) hS ?_
  rotate_left
  · intro w hSw; (try dsimp only at hSw); have qA := hSw.1; have qB := hSw.2; have lA := lt_of_cell qA; clear hSw; go_simp; (try with_reducible rfl)
  try simp only [Act.put, List.setIfInBounds_toArray, List.set_cons_zero, List.set_cons_succ]
  refine wpAnyE_takeL (i := 6) (v := ?_) rfl (by kernel_rfl) (fun _ _ _ h => h) (Or.inl ⟨by rfl, ?_⟩) hS ?_
  rotate_left
  · intro w hSw; (try dsimp only at hSw); have qA := hSw.1; have qB := hSw.2; have lA := lt_of_cell qA; clear hSw; go_simp; (try with_reducible rfl)
  try simp only [Act.put, List.setIfInBounds_toArray, List.set_cons_zero, List.set_cons_succ]
  refine wpAnyE_takeL (i := 7) (v := ?_) rfl (by kernel_rfl) (fun _ _ _ h => h) (Or.inl ⟨by rfl, ?_⟩) hS ?_
  rotate_left
  · intro w hSw; (try dsimp only at hSw); have qA := hSw.1; have qB := hSw.2; have lA := lt_of_cell qA; clear hSw; go_simp; (try with_reducible rfl)
  try simp only [Act.put, List.setIfInBounds_toArray, List.set_cons_zero, List.set_cons_succ]
  refine wpAnyE_takeL (i := 8) (v := ?_) rfl (by kernel_rfl) (fun _ _ _ h => h) (Or.inl ⟨by rfl, ?_⟩) hS ?_
  rotate_left
  · intro w hSw; (try dsimp only at hSw); have qA := hSw.1; have qB := hSw.2; have lA := lt_of_cell qA; clear hSw; go_simp; (try with_reducible rfl)
  try simp only [Act.put, List.setIfInBounds_toArray, List.set_cons_zero, List.set_cons_succ]
  refine wpAnyE_takeL (i := 9) (v := ?_) rfl (by kernel_rfl) (fun _ _ _ h => h) (Or.inl ⟨by rfl, ?_⟩) hS ?_
  rotate_left
  · intro w hSw; (try dsimp only at hSw); have qA := hSw.1; have qB := hSw.2; have lA := lt_of_cell qA; clear hSw; go_simp; (try with_reducible rfl)
  try simp only [Act.put, List.setIfInBounds_toArray, List.set_cons_zero, List.set_cons_succ]
  refine wpAnyE_takeL (i := 10) (v := ?_) rfl (by kernel_rfl) (fun _ _ _ h => h) (Or.inl ⟨by rfl, ?_⟩) hS ?_
  rotate_left
  · intro w hSw; (try dsimp only at hSw); have qA := hSw.1; have qB := hSw.2; have lA := lt_of_cell qA; clear hSw; go_simp; (try with_reducible rfl)
  try simp only [Act.put, List.setIfInBounds_toArray, List.set_cons_zero, List.set_cons_succ]
  refine wpAnyE_takeL (i := 11) (v := ?_) rfl (by kernel_rfl) (fun _ _ _ h => h) (Or.inl ⟨by rfl, ?_⟩) hS ?_
  rotate_left
  · intro w hSw; (try dsimp only at hSw); have qA := hSw.1; have qB := hSw.2; have lA := lt_of_cell qA; clear hSw; go_simp; (try with_reducible rfl)
  try simp only [Act.put, List.setIfInBounds_toArray, List.set_cons_zero, List.set_cons_succ]
  refine wpAnyE_takeL (i := 12) (v := ?_) rfl (by kernel_rfl) (fun _ _ _ h => h) (Or.inl ⟨by rfl, ?_⟩) hS ?_
  rotate_left
  · intro w hSw; (try dsimp only at hSw); have qA := hSw.1; have qB := hSw.2; have lA := lt_of_cell qA; clear hSw; go_simp; (try with_reducible rfl)
  try simp only [Act.put, List.setIfInBounds_toArray, List.set_cons_zero, List.set_cons_succ]
  refine wpAnyE_takeL (i := 13) (v := ?_) rfl (by kernel_rfl) (fun _ _ _ h => h) (Or.inl ⟨by rfl, ?_⟩) hS ?_
  rotate_left
  · intro w hSw; (try dsimp only at hSw); have qA := hSw.1; have qB := hSw.2; have lA := lt_of_cell qA; clear hSw; go_simp; (try with_reducible rfl)
  try simp only [Act.put, List.setIfInBounds_toArray, List.set_cons_zero, List.set_cons_succ]
  obtain ⟨v0, hv0⟩ : ∃ q, q = w2n.drew := ⟨_, rfl⟩
  have hb3 : Below w2n.heap.size w2n v0 := by rw [hv0]; exact (Below.refl _ w2n).drew
  have hvs : v0.heap.size = w2n.heap.size := by rw [hv0]; rfl
  rw [← hv0]
  clear hv0
  have hvs1 : v0.heap.size ≤ w2n.heap.size := Nat.le_of_eq hvs
  clear hvs
  refine wpAnyE_oneL (k := 14) (by kernel_rfl) rfl (fun K hK => ?_)
  go_simp
  have hal : Below v0.heap.size v0 (v0.alloc (.cells #[.int .i64 0, .slice none 0 0, .int .i64 0, .int .i64 0] 52)) := (Below.refl _ v0).alloc (Nat.le_refl _) _
  have hvs2 := hb3.size
  replace hb3 := below_on hal hb3
  have kD0 : Blk (v0.alloc (.cells #[.int .i64 0, .slice none 0 0, .int .i64 0, .int .i64 0] 52)) v0.heap.size #[.int .i64 0, .slice none 0 0, .int .i64 0, .int .i64 0] 52 := Blk.new _ rfl
  refine hK.out _ _ (fun _ => ⟨cell_by' hb3 p1, cell_by' hb3 p2⟩) ?_
  try simp only [Act.put, List.setIfInBounds_toArray, List.set_cons_zero, List.set_cons_succ]
  clear hal hK
  generalize v0.alloc (.cells #[.int .i64 0, .slice none 0 0, .int .i64 0, .int .i64 0] 52) = z1 at *
  generalize v0.heap.size = DB at *
  have hDBg : w2n.heap.size ≤ DB := hvs2
  refine wpAnyE_oneL (k := 15) (by kernel_rfl) rfl (fun K hK => ?_)
  have cD := kD0.cell
  have fD := kD0.free
  have lD := kD0.lt
  go_simp
  refine hK.out _ _ (fun h => absurd rfl h) ?_
  refine wpAnyE_done (by kernel_rfl) ?_ _
  have kD : Blk ((((z1.setCell ⟨DB, 0, none⟩ (.int .i64 2)).setCell ⟨DB, 1, none⟩ (.slice (some ⟨G, 0, none⟩) 2 c5)).setCell ⟨DB, 2, none⟩ (.int .i64 WD)).setCell ⟨DB, 3, none⟩ (.int .i64 LN)) DB #[.int .i64 2, .slice (some ⟨G, 0, none⟩) 2 c5, .int .i64 WD, .int .i64 LN] 52 := (((kD0.set 0 _).set 1 _).set 2 _).set 3 _
  have hb4 : Below w2n.heap.size w2n ((((z1.setCell ⟨DB, 0, none⟩ (.int .i64 2)).setCell ⟨DB, 1, none⟩ (.slice (some ⟨G, 0, none⟩) 2 c5)).setCell ⟨DB, 2, none⟩ (.int .i64 WD)).setCell ⟨DB, 3, none⟩ (.int .i64 LN)) := (((hb3.setCell hDBg _).setCell hDBg _).setCell hDBg _).setCell hDBg _
  clear hS cD fD lD kD0 hb3 hK p1 p2 hvs1 hvs2
  generalize ((((z1.setCell ⟨DB, 0, none⟩ (.int .i64 2)).setCell ⟨DB, 1, none⟩ (.slice (some ⟨G, 0, none⟩) 2 c5)).setCell ⟨DB, 2, none⟩ (.int .i64 WD)).setCell ⟨DB, 3, none⟩ (.int .i64 LN)) = w3 at *
  replace kN := Blk.by hb4 kN
  replace kR := Blk.by hb4 kR
  replace hbz := below_on hb4 hbz
  replace HPI := Lib.hid (HPI.out.by hb4)
  have hNl := kN.lt
  replace kG := Blk.by hb4 kG
  have hRl := kR.lt
  have hDl := kD.lt
  clear hb4 hDBg
  have HD3 := Lib.hid (HD.out.by hbz)
  obtain ⟨NB, hNB⟩ : ∃ q, w.heap.size = q := ⟨_, rfl⟩
  go_upto_region 13 with fail
  rw [hNB] at kN kR hNl hRl
  (try rw [hNB])
  have hNBl : w.heap.size ≤ NB := Nat.le_of_eq hNB
  have hND : NB + 1 < DB ∨ DB < NB := by
    rcases Nat.lt_trichotomy DB NB with h | h | h
    · exact .inr h
    · subst h; exact absurd (kD.sameT kN) (by decide)
    · rcases Nat.lt_or_ge (NB + 1) DB with h2 | h2
      · exact .inl h2
      · obtain rfl : DB = NB + 1 := by omega
        exact absurd (kD.sameT kR) (by decide)
  have hGR : G ≠ NB + 1 := fun e => by subst e; exact absurd (kG.sameT kR) (by decide)
  clear hNB
  have hS : (fun w' : World => Blk w' NB #[.int .i64 x.nets, .slice a1 x.ds.length c1, .slice a2 x.ps.length c2] 31 ∧ Blk w' DB #[.int .i64 2, .slice (some ⟨G, 0, none⟩) 2 c5, .int .i64 WD, .int .i64 LN] 52) { w3 with drawn := w3.drawn + 1 } := ⟨kN.drew, kD.drew⟩
  refine wp_region_any (by kernel_rfl) (wpAny_of_E (S := (fun w' : World => Blk w' NB #[.int .i64 x.nets, .slice a1 x.ds.length c1, .slice a2 x.ps.length c2] 31 ∧ Blk w' DB #[.int .i64 2, .slice (some ⟨G, 0, none⟩) 2 c5, .int .i64 WD, .int .i64 LN] 52)) (l := 13) _ _ _ _ ?_)
  change wpAnyE _ _ _ _ _ _ _ _ _ w3.drew
  refine wpAnyE_takeL (i := 0) (v := ?_) rfl (by kernel_rfl) (fun _ _ _ h => h) (Or.inl ⟨by rfl, ?_⟩) hS ?_
  rotate_left
  · intro w hSw; (try dsimp only at hSw); have qA := hSw.1.cell; have lA := hSw.1.lt; have qB := hSw.2.cell; have lB := hSw.2.lt; clear hSw; go_simp; (try with_reducible rfl)
  try simp only [Act.put, List.setIfInBounds_toArray, List.set_cons_zero, List.set_cons_succ]
  refine wpAnyE_takeL (i := 1) (v := ?_) rfl (by kernel_rfl) (fun _ _ _ h => h) (Or.inl ⟨by rfl, ?_⟩) hS ?_
  rotate_left
  · intro w hSw; (try dsimp only at hSw); have qA := hSw.1.cell; have lA := hSw.1.lt; have qB := hSw.2.cell; have lB := hSw.2.lt; clear hSw; go_simp; (try with_reducible rfl)
  try simp only [Act.put, List.setIfInBounds_toArray, List.set_cons_zero, List.set_cons_succ]
  refine wpAnyE_takeL (i := 3) (v := ?_) rfl (by kernel_rfl) (fun _ _ _ h => h) (Or.inl ⟨by rfl, ?_⟩) hS ?_
  rotate_left
  · intro w hSw; (try dsimp only at hSw); have qA := hSw.1.cell; have lA := hSw.1.lt; have qB := hSw.2.cell; have lB := hSw.2.lt; clear hSw; go_simp; (try with_reducible rfl)
  try simp only [Act.put, List.setIfInBounds_toArray, List.set_cons_zero, List.set_cons_succ]
  refine wpAnyE_takeL (i := 4) (v := ?_) rfl (by kernel_rfl) (fun _ _ _ h => h) (Or.inl ⟨by rfl, ?_⟩) hS ?_
  rotate_left
  · intro w hSw; (try dsimp only at hSw); have qA := hSw.1.cell; have lA := hSw.1.lt; have qB := hSw.2.cell; have lB := hSw.2.lt; clear hSw; go_simp; (try with_reducible rfl)
  try simp only [Act.put, List.setIfInBounds_toArray, List.set_cons_zero, List.set_cons_succ]
  refine wpAnyE_takeL (i := 6) (v := ?_) rfl (by kernel_rfl) (fun _ _ _ h => h) (Or.inl ⟨by rfl, ?_⟩) hS ?_
  rotate_left
  · intro w hSw; (try dsimp only at hSw); have qA := hSw.1.cell; have lA := hSw.1.lt; have qB := hSw.2.cell; have lB := hSw.2.lt; clear hSw; go_simp; (try with_reducible rfl)
  try simp only [Act.put, List.setIfInBounds_toArray, List.set_cons_zero, List.set_cons_succ]
  refine wpAnyE_takeL (i := 9) (v := ?_) rfl (by kernel_rfl) (fun _ _ _ h => h) (Or.inl ⟨by rfl, ?_⟩) hS ?_
  rotate_left
  · intro w hSw; (try dsimp only at hSw); have qA := hSw.1.cell; have lA := hSw.1.lt; have qB := hSw.2.cell; have lB := hSw.2.lt; clear hSw; go_simp; (try with_reducible rfl)
  try simp only [Act.put, List.setIfInBounds_toArray, List.set_cons_zero, List.set_cons_succ]
  refine wpAnyE_takeL (i := 10) (v := ?_) rfl (by kernel_rfl) (fun _ _ _ h => h) (Or.inl ⟨by rfl, ?_⟩) hS ?_
  rotate_left
  · intro w hSw; (try dsimp only at hSw); have qA := hSw.1.cell; have lA := hSw.1.lt; have qB := hSw.2.cell; have lB := hSw.2.lt; clear hSw; go_simp; (try with_reducible rfl)
  try simp only [Act.put, List.setIfInBounds_toArray, List.set_cons_zero, List.set_cons_succ]
  obtain ⟨y0, hy0⟩ : ∃ q, q = w3.drew := ⟨_, rfl⟩
  have kEc : Blk y0 NB #[.int .i64 x.nets, .slice a1 x.ds.length c1, .slice a2 x.ps.length c2] 31 := by rw [hy0]; exact kN.drew
  have kRc : Blk y0 (NB + 1) #[.int .i64 0, .slice none 0 0, .slice none 0 0] 31 := by rw [hy0]; exact kR.drew
  have kDc : Blk y0 DB #[.int .i64 2, .slice (some ⟨G, 0, none⟩) 2 c5, .int .i64 WD, .int .i64 LN] 52 := by rw [hy0]; exact kD.drew
  have kGc : Blk y0 G cs 2 := by rw [hy0]; exact kG.drew
  have hGl := kG.lt
  have hbc : Below w3.heap.size w3 y0 := by rw [hy0]; exact (Below.refl _ w3).drew
  rw [← hy0]
  clear hy0 kN kR kD kG
  refine wpAnyE_twoL (k := 2) (k' := 7) (by kernel_rfl) rfl rfl (fun K hK => ?_) (fun K hK => ?_)
  · go_simp
    have hal : Below y0.heap.size y0 (y0.alloc (.cells #[] 52)) := (Below.refl _ y0).alloc (Nat.le_refl _) _
    have hz_LB : w3.heap.size ≤ y0.heap.size := hbc.size
    replace kEc := Blk.by hal kEc
    replace kRc := Blk.by hal kRc
    replace kDc := Blk.by hal kDc
    replace kGc := Blk.by hal kGc
    replace hbc := below_on hal hbc
    have kLc : Blk (y0.alloc (.cells #[] 52)) y0.heap.size #[] 52 := Blk.new _ rfl
    refine hK.out _ _ (fun _ => ⟨kEc, kDc⟩) ?_
    try simp only [Act.put, List.setIfInBounds_toArray, List.set_cons_zero, List.set_cons_succ]
    clear hal hK
    generalize y0.alloc (.cells #[] 52) = y1 at *
    generalize y0.heap.size = LB at *
    refine wpAnyE_twoL (k := 5) (k' := 7) (by kernel_rfl) rfl rfl (fun K hK => ?_) (fun K hK => ?_)
    · refine step_catD (by rfl) _ _ (by rfl) w LB LB (.slice a1 x.ds.length c1) x.ds (by rfl) (by rfl) kLc HD.out (below_on hbc hbz) (Nat.le_refl _) (by omega) ?_
      intro aa ca xs y2 HRc hdv hgr
      have hsW := hbc.size
      have hLW : LB ≤ y2.heap.size := Nat.le_trans (Nat.le_of_lt kLc.lt) hgr.size
      replace kEc : Blk y2 NB #[.int .i64 x.nets, .slice a1 x.ds.length c1, .slice a2 x.ps.length c2] 31 := (hgr.block _ kEc.lt (fun e => by have := Option.some.inj e; omega)).trans kEc
      replace kRc : Blk y2 (NB + 1) #[.int .i64 0, .slice none 0 0, .slice none 0 0] 31 := (hgr.block _ kRc.lt (fun e => by have := Option.some.inj e; omega)).trans kRc
      replace kDc : Blk y2 DB #[.int .i64 2, .slice (some ⟨G, 0, none⟩) 2 c5, .int .i64 WD, .int .i64 LN] 52 := (hgr.block _ kDc.lt (fun e => by have := Option.some.inj e; omega)).trans kDc
      replace kGc : Blk y2 G cs 2 := (hgr.block _ kGc.lt (fun e => by have := Option.some.inj e; omega)).trans kGc
      replace hbc : Below w3.heap.size w3 y2 := hbc.grown hgr hsW (fun q hq => by have := Option.some.inj hq; omega)
      refine hK.out _ _ (fun _ => ⟨kEc, kDc⟩) ?_
      try simp only [Act.put, List.setIfInBounds_toArray, List.set_cons_zero, List.set_cons_succ]
      clear hK hgr hsW
      refine wpAnyE_oneL (k := 7) (by kernel_rfl) rfl (fun K hK => ?_)
      go_simp
      have hal : Below y2.heap.size y2 (y2.alloc (.cells #[.int .i64 2, .slice (some ⟨G, 0, none⟩) 2 c5, .int .i64 WD, .int .i64 LN] 52)) := (Below.refl _ y2).alloc (Nat.le_refl _) _
      have hz_NN : w3.heap.size ≤ y2.heap.size := hbc.size
      replace kEc := Blk.by hal kEc
      replace kRc := Blk.by hal kRc
      replace kDc := Blk.by hal kDc
      replace kGc := Blk.by hal kGc
      replace HRc := row_same HRc (fun q hq => hal.block q (HRc.lt q hq).2)
      replace hbc := below_on hal hbc
      replace hLW := Nat.le_trans hLW hal.size
      have kNc : Blk (y2.alloc (.cells #[.int .i64 2, .slice (some ⟨G, 0, none⟩) 2 c5, .int .i64 WD, .int .i64 LN] 52)) y2.heap.size #[.int .i64 2, .slice (some ⟨G, 0, none⟩) 2 c5, .int .i64 WD, .int .i64 LN] 52 := Blk.new _ rfl
      refine hK.out _ _ (fun _ => ⟨kEc, kDc⟩) ?_
      try simp only [Act.put, List.setIfInBounds_toArray, List.set_cons_zero, List.set_cons_succ]
      clear hal hK
      generalize y2.alloc (.cells #[.int .i64 2, .slice (some ⟨G, 0, none⟩) 2 c5, .int .i64 WD, .int .i64 LN] 52) = y3 at *
      generalize y2.heap.size = NN at *
      refine wpAnyE_oneL (k := 8) (by kernel_rfl) rfl (fun K hK => ?_)
      refine step_oneD2 (by rfl) _ _ (by rfl) LB NN x.ds.length (.slice aa x.ds.length ca) (.slice (some ⟨G, 0, none⟩) 2 c5) xs 2 WD LN (by rfl) (by rfl) HRc rfl kNc hLW (by omega) ?_
      intro ab cb y4 HR2 hgr
      have hown := fun q (hq : (Value.slice aa x.ds.length ca).ownBlock = some q) => (HRc.lt q hq)
      have hsW := hbc.size
      replace kEc : Blk y4 NB #[.int .i64 x.nets, .slice a1 x.ds.length c1, .slice a2 x.ps.length c2] 31 := (hgr.block _ kEc.lt (fun e => by have := hown _ e.symm; omega)).trans kEc
      replace kRc : Blk y4 (NB + 1) #[.int .i64 0, .slice none 0 0, .slice none 0 0] 31 := (hgr.block _ kRc.lt (fun e => by have := hown _ e.symm; omega)).trans kRc
      replace kDc : Blk y4 DB #[.int .i64 2, .slice (some ⟨G, 0, none⟩) 2 c5, .int .i64 WD, .int .i64 LN] 52 := (hgr.block _ kDc.lt (fun e => by have := hown _ e.symm; omega)).trans kDc
      replace kGc : Blk y4 G cs 2 := (hgr.block _ kGc.lt (fun e => by have := hown _ e.symm; omega)).trans kGc
      replace hbc : Below w3.heap.size w3 y4 := hbc.grown hgr hsW (fun q hq => by have := hown _ hq; omega)
      refine hK.out _ _ (fun _ => ⟨kEc, kDc⟩) ?_
      try simp only [Act.put, List.setIfInBounds_toArray, List.set_cons_zero, List.set_cons_succ]
      clear hK hgr hsW hown HRc
      refine wpAnyE_oneL (k := 11) (by kernel_rfl) rfl (fun K hK => ?_)
      go_simp
      refine hK.out _ _ (fun _ => ⟨kEc, kDc⟩) ?_
      try simp only [Act.put, List.setIfInBounds_toArray, List.set_cons_zero, List.set_cons_succ]
      clear hK
      refine wpAnyE_oneL (k := 12) (by kernel_rfl) rfl (fun K hK => ?_)
      have cR := kRc.cell
      have fR := kRc.free
      have lR := kRc.lt
      go_simp
      have hne : ∀ q, (Value.slice ab (x.ds.length + 1) cb).ownBlock = some q → q ≠ NB + 1 := fun q hq => by have := HR2.lt q hq; omega
      have hne2 : DB ≠ NB + 1 := by omega
      have hne0 : NB ≠ NB + 1 := by omega
      have hNB1 : w.heap.size ≤ NB + 1 := by omega
      have HR3 : World.ownsRow (((y4.setCell ⟨NB + 1, 0, none⟩ (.int .i64 x.nets)).setCell ⟨NB + 1, 1, none⟩ (.slice ab (x.ds.length + 1) cb)).setCell ⟨NB + 1, 2, none⟩ (.slice a2 x.ps.length c2)) LB 52 4 (.slice ab (x.ds.length + 1) cb) (x.ds.length + 1) (xs ++ [.int .i64 2, .slice (some ⟨G, 0, none⟩) 2 c5, .int .i64 WD, .int .i64 LN]) := row_same (row_same (row_same HR2 (fun q hq => Below.heap_setCell _ ⟨NB + 1, 0, none⟩ _ q (hne q hq))) (fun q hq => Below.heap_setCell _ ⟨NB + 1, 1, none⟩ _ q (hne q hq))) (fun q hq => Below.heap_setCell _ ⟨NB + 1, 2, none⟩ _ q (hne q hq))
      have kRz : Blk (((y4.setCell ⟨NB + 1, 0, none⟩ (.int .i64 x.nets)).setCell ⟨NB + 1, 1, none⟩ (.slice ab (x.ds.length + 1) cb)).setCell ⟨NB + 1, 2, none⟩ (.slice a2 x.ps.length c2)) (NB + 1) #[.int .i64 x.nets, .slice ab (x.ds.length + 1) cb, .slice a2 x.ps.length c2] 31 := ((kRc.set 0 _).set 1 _).set 2 _
      have kGz : Blk (((y4.setCell ⟨NB + 1, 0, none⟩ (.int .i64 x.nets)).setCell ⟨NB + 1, 1, none⟩ (.slice ab (x.ds.length + 1) cb)).setCell ⟨NB + 1, 2, none⟩ (.slice a2 x.ps.length c2)) G cs 2 := ((kGc.apart _ _ _ hGR).apart _ _ _ hGR).apart _ _ _ hGR
      have hbw : Below w.heap.size w (((y4.setCell ⟨NB + 1, 0, none⟩ (.int .i64 x.nets)).setCell ⟨NB + 1, 1, none⟩ (.slice ab (x.ds.length + 1) cb)).setCell ⟨NB + 1, 2, none⟩ (.slice a2 x.ps.length c2)) := (((below_on hbc hbz).setCell hNB1 _).setCell hNB1 _).setCell hNB1 _
      refine hK.out _ _ (fun _ => ⟨((kEc.apart _ _ _ hne0).apart _ _ _ hne0).apart _ _ _ hne0, ((kDc.apart _ _ _ hne2).apart _ _ _ hne2).apart _ _ _ hne2⟩) ?_
      try simp only [Act.put, List.setIfInBounds_toArray, List.set_cons_zero, List.set_cons_succ]
      clear hK cR fR lR hne hne2 HR2
      generalize ((y4.setCell ⟨NB + 1, 0, none⟩ (.int .i64 x.nets)).setCell ⟨NB + 1, 1, none⟩ (.slice ab (x.ds.length + 1) cb)).setCell ⟨NB + 1, 2, none⟩ (.slice a2 x.ps.length c2) = y5 at *
      refine wpAnyE_oneL (k := 13) (by kernel_rfl) rfl (fun K hK => ?_)
      go_simp
      refine hK.out _ _ (fun h => absurd rfl h) ?_
      refine wpAnyE_done (by kernel_rfl) ?_ _
      clear hS
      have cRz := kRz.cell
      have lRz := kRz.lt
      have HFI := Lib.hid (row_sl2 (d := ⟨2, zs.take 2, WD, LN⟩) HR3 rfl hdv hbw (pins_of kGz HCE.out (HZ.out) hl2))
      go_wp2
      refine bodyPost_ret (v := .tuple #[.agg #[.int .i64 x.nets, .slice ab (x.ds.length + 1) cb, .slice a2 x.ps.length c2], .bool true]) (by simp [results, Tryd.results33, go_sem, *]) rfl ⟨_, by rw [HL.out]; rfl, fun y hy => ?_, hbw, _, _, _, _, _, _, _, rfl⟩
      rw [HL.out] at hy
      obtain rfl := (Option.some.inj hy).symm
      exact ⟨_, _, rfl, HFI.out, HP.out.by hbw⟩
    · go_simp
      have hal : Below y1.heap.size y1 (y1.alloc (.cells #[.int .i64 2, .slice (some ⟨G, 0, none⟩) 2 c5, .int .i64 WD, .int .i64 LN] 52)) := (Below.refl _ y1).alloc (Nat.le_refl _) _
      have hz_NN : w3.heap.size ≤ y1.heap.size := hbc.size
      have hLN : LB < y1.heap.size := kLc.lt
      replace kEc := Blk.by hal kEc
      replace kRc := Blk.by hal kRc
      replace kDc := Blk.by hal kDc
      replace kGc := Blk.by hal kGc
      replace kLc := Blk.by hal kLc
      replace hbc := below_on hal hbc
      have kNc : Blk (y1.alloc (.cells #[.int .i64 2, .slice (some ⟨G, 0, none⟩) 2 c5, .int .i64 WD, .int .i64 LN] 52)) y1.heap.size #[.int .i64 2, .slice (some ⟨G, 0, none⟩) 2 c5, .int .i64 WD, .int .i64 LN] 52 := Blk.new _ rfl
      refine hK.out _ _ (fun _ => ⟨kEc, kDc⟩) ?_
      try simp only [Act.put, List.setIfInBounds_toArray, List.set_cons_zero, List.set_cons_succ]
      clear hal hK
      generalize y1.alloc (.cells #[.int .i64 2, .slice (some ⟨G, 0, none⟩) 2 c5, .int .i64 WD, .int .i64 LN] 52) = y10 at *
      generalize y1.heap.size = NN at *
      refine wpAnyE_oneL (k := 5) (by kernel_rfl) rfl (fun K hK => ?_)
      refine step_catD (by rfl) _ _ (by rfl) w LB LB (.slice a1 x.ds.length c1) x.ds (by rfl) (by rfl) kLc HD.out (below_on hbc hbz) (Nat.le_refl _) (by omega) ?_
      intro aa ca xs y11 HRc hdv hgr
      have hsW := hbc.size
      have hLW : LB ≤ y11.heap.size := Nat.le_trans (Nat.le_of_lt kLc.lt) hgr.size
      replace kNc : Blk y11 NN #[.int .i64 2, .slice (some ⟨G, 0, none⟩) 2 c5, .int .i64 WD, .int .i64 LN] 52 := (hgr.block _ kNc.lt (fun e => by have := Option.some.inj e; omega)).trans kNc
      replace kEc : Blk y11 NB #[.int .i64 x.nets, .slice a1 x.ds.length c1, .slice a2 x.ps.length c2] 31 := (hgr.block _ kEc.lt (fun e => by have := Option.some.inj e; omega)).trans kEc
      replace kRc : Blk y11 (NB + 1) #[.int .i64 0, .slice none 0 0, .slice none 0 0] 31 := (hgr.block _ kRc.lt (fun e => by have := Option.some.inj e; omega)).trans kRc
      replace kDc : Blk y11 DB #[.int .i64 2, .slice (some ⟨G, 0, none⟩) 2 c5, .int .i64 WD, .int .i64 LN] 52 := (hgr.block _ kDc.lt (fun e => by have := Option.some.inj e; omega)).trans kDc
      replace kGc : Blk y11 G cs 2 := (hgr.block _ kGc.lt (fun e => by have := Option.some.inj e; omega)).trans kGc
      replace hbc : Below w3.heap.size w3 y11 := hbc.grown hgr hsW (fun q hq => by have := Option.some.inj hq; omega)
      refine hK.out _ _ (fun _ => ⟨kEc, kDc⟩) ?_
      try simp only [Act.put, List.setIfInBounds_toArray, List.set_cons_zero, List.set_cons_succ]
      clear hK hgr hsW
      refine wpAnyE_oneL (k := 8) (by kernel_rfl) rfl (fun K hK => ?_)
      refine step_oneD2 (by rfl) _ _ (by rfl) LB NN x.ds.length (.slice aa x.ds.length ca) (.slice (some ⟨G, 0, none⟩) 2 c5) xs 2 WD LN (by rfl) (by rfl) HRc rfl kNc hLW (by omega) ?_
      intro ab cb y12 HR2 hgr
      have hown := fun q (hq : (Value.slice aa x.ds.length ca).ownBlock = some q) => (HRc.lt q hq)
      have hsW := hbc.size
      replace kEc : Blk y12 NB #[.int .i64 x.nets, .slice a1 x.ds.length c1, .slice a2 x.ps.length c2] 31 := (hgr.block _ kEc.lt (fun e => by have := hown _ e.symm; omega)).trans kEc
      replace kRc : Blk y12 (NB + 1) #[.int .i64 0, .slice none 0 0, .slice none 0 0] 31 := (hgr.block _ kRc.lt (fun e => by have := hown _ e.symm; omega)).trans kRc
      replace kDc : Blk y12 DB #[.int .i64 2, .slice (some ⟨G, 0, none⟩) 2 c5, .int .i64 WD, .int .i64 LN] 52 := (hgr.block _ kDc.lt (fun e => by have := hown _ e.symm; omega)).trans kDc
      replace kGc : Blk y12 G cs 2 := (hgr.block _ kGc.lt (fun e => by have := hown _ e.symm; omega)).trans kGc
      replace hbc : Below w3.heap.size w3 y12 := hbc.grown hgr hsW (fun q hq => by have := hown _ hq; omega)
      refine hK.out _ _ (fun _ => ⟨kEc, kDc⟩) ?_
      try simp only [Act.put, List.setIfInBounds_toArray, List.set_cons_zero, List.set_cons_succ]
      clear hK hgr hsW hown HRc
      refine wpAnyE_oneL (k := 11) (by kernel_rfl) rfl (fun K hK => ?_)
      go_simp
      refine hK.out _ _ (fun _ => ⟨kEc, kDc⟩) ?_
      try simp only [Act.put, List.setIfInBounds_toArray, List.set_cons_zero, List.set_cons_succ]
      clear hK
      refine wpAnyE_oneL (k := 12) (by kernel_rfl) rfl (fun K hK => ?_)
      have cR := kRc.cell
      have fR := kRc.free
      have lR := kRc.lt
      go_simp
      have hne : ∀ q, (Value.slice ab (x.ds.length + 1) cb).ownBlock = some q → q ≠ NB + 1 := fun q hq => by have := HR2.lt q hq; omega
      have hne2 : DB ≠ NB + 1 := by omega
      have hne0 : NB ≠ NB + 1 := by omega
      have hNB1 : w.heap.size ≤ NB + 1 := by omega
      have HR3 : World.ownsRow (((y12.setCell ⟨NB + 1, 0, none⟩ (.int .i64 x.nets)).setCell ⟨NB + 1, 1, none⟩ (.slice ab (x.ds.length + 1) cb)).setCell ⟨NB + 1, 2, none⟩ (.slice a2 x.ps.length c2)) LB 52 4 (.slice ab (x.ds.length + 1) cb) (x.ds.length + 1) (xs ++ [.int .i64 2, .slice (some ⟨G, 0, none⟩) 2 c5, .int .i64 WD, .int .i64 LN]) := row_same (row_same (row_same HR2 (fun q hq => Below.heap_setCell _ ⟨NB + 1, 0, none⟩ _ q (hne q hq))) (fun q hq => Below.heap_setCell _ ⟨NB + 1, 1, none⟩ _ q (hne q hq))) (fun q hq => Below.heap_setCell _ ⟨NB + 1, 2, none⟩ _ q (hne q hq))
      have kRz : Blk (((y12.setCell ⟨NB + 1, 0, none⟩ (.int .i64 x.nets)).setCell ⟨NB + 1, 1, none⟩ (.slice ab (x.ds.length + 1) cb)).setCell ⟨NB + 1, 2, none⟩ (.slice a2 x.ps.length c2)) (NB + 1) #[.int .i64 x.nets, .slice ab (x.ds.length + 1) cb, .slice a2 x.ps.length c2] 31 := ((kRc.set 0 _).set 1 _).set 2 _
      have kGz : Blk (((y12.setCell ⟨NB + 1, 0, none⟩ (.int .i64 x.nets)).setCell ⟨NB + 1, 1, none⟩ (.slice ab (x.ds.length + 1) cb)).setCell ⟨NB + 1, 2, none⟩ (.slice a2 x.ps.length c2)) G cs 2 := ((kGc.apart _ _ _ hGR).apart _ _ _ hGR).apart _ _ _ hGR
      have hbw : Below w.heap.size w (((y12.setCell ⟨NB + 1, 0, none⟩ (.int .i64 x.nets)).setCell ⟨NB + 1, 1, none⟩ (.slice ab (x.ds.length + 1) cb)).setCell ⟨NB + 1, 2, none⟩ (.slice a2 x.ps.length c2)) := (((below_on hbc hbz).setCell hNB1 _).setCell hNB1 _).setCell hNB1 _
      refine hK.out _ _ (fun _ => ⟨((kEc.apart _ _ _ hne0).apart _ _ _ hne0).apart _ _ _ hne0, ((kDc.apart _ _ _ hne2).apart _ _ _ hne2).apart _ _ _ hne2⟩) ?_
      try simp only [Act.put, List.setIfInBounds_toArray, List.set_cons_zero, List.set_cons_succ]
      clear hK cR fR lR hne hne2 HR2
      generalize ((y12.setCell ⟨NB + 1, 0, none⟩ (.int .i64 x.nets)).setCell ⟨NB + 1, 1, none⟩ (.slice ab (x.ds.length + 1) cb)).setCell ⟨NB + 1, 2, none⟩ (.slice a2 x.ps.length c2) = y13 at *
      refine wpAnyE_oneL (k := 13) (by kernel_rfl) rfl (fun K hK => ?_)
      go_simp
      refine hK.out _ _ (fun h => absurd rfl h) ?_
      refine wpAnyE_done (by kernel_rfl) ?_ _
      clear hS
      have cRz := kRz.cell
      have lRz := kRz.lt
      have HFI := Lib.hid (row_sl2 (d := ⟨2, zs.take 2, WD, LN⟩) HR3 rfl hdv hbw (pins_of kGz HCE.out (HZ.out) hl2))
      go_wp2
      refine bodyPost_ret (v := .tuple #[.agg #[.int .i64 x.nets, .slice ab (x.ds.length + 1) cb, .slice a2 x.ps.length c2], .bool true]) (by simp [results, Tryd.results33, go_sem, *]) rfl ⟨_, by rw [HL.out]; rfl, fun y hy => ?_, hbw, _, _, _, _, _, _, _, rfl⟩
      rw [HL.out] at hy
      obtain rfl := (Option.some.inj hy).symm
      exact ⟨_, _, rfl, HFI.out, HP.out.by hbw⟩
  · go_simp
    have hal : Below y0.heap.size y0 (y0.alloc (.cells #[.int .i64 2, .slice (some ⟨G, 0, none⟩) 2 c5, .int .i64 WD, .int .i64 LN] 52)) := (Below.refl _ y0).alloc (Nat.le_refl _) _
    have hz_NN : w3.heap.size ≤ y0.heap.size := hbc.size
    replace kEc := Blk.by hal kEc
    replace kRc := Blk.by hal kRc
    replace kDc := Blk.by hal kDc
    replace kGc := Blk.by hal kGc
    replace hbc := below_on hal hbc
    have kNc : Blk (y0.alloc (.cells #[.int .i64 2, .slice (some ⟨G, 0, none⟩) 2 c5, .int .i64 WD, .int .i64 LN] 52)) y0.heap.size #[.int .i64 2, .slice (some ⟨G, 0, none⟩) 2 c5, .int .i64 WD, .int .i64 LN] 52 := Blk.new _ rfl
    refine hK.out _ _ (fun _ => ⟨kEc, kDc⟩) ?_
    try simp only [Act.put, List.setIfInBounds_toArray, List.set_cons_zero, List.set_cons_succ]
    clear hal hK
    generalize y0.alloc (.cells #[.int .i64 2, .slice (some ⟨G, 0, none⟩) 2 c5, .int .i64 WD, .int .i64 LN] 52) = y18 at *
    generalize y0.heap.size = NN at *
    refine wpAnyE_oneL (k := 2) (by kernel_rfl) rfl (fun K hK => ?_)
    go_simp
    have hal : Below y18.heap.size y18 (y18.alloc (.cells #[] 52)) := (Below.refl _ y18).alloc (Nat.le_refl _) _
    have hz_LB : w3.heap.size ≤ y18.heap.size := hbc.size
    have hNL : NN < y18.heap.size := kNc.lt
    replace kEc := Blk.by hal kEc
    replace kRc := Blk.by hal kRc
    replace kDc := Blk.by hal kDc
    replace kGc := Blk.by hal kGc
    replace kNc := Blk.by hal kNc
    replace hbc := below_on hal hbc
    have kLc : Blk (y18.alloc (.cells #[] 52)) y18.heap.size #[] 52 := Blk.new _ rfl
    refine hK.out _ _ (fun _ => ⟨kEc, kDc⟩) ?_
    try simp only [Act.put, List.setIfInBounds_toArray, List.set_cons_zero, List.set_cons_succ]
    clear hal hK
    generalize y18.alloc (.cells #[] 52) = y19 at *
    generalize y18.heap.size = LB at *
    refine wpAnyE_oneL (k := 5) (by kernel_rfl) rfl (fun K hK => ?_)
    refine step_catD (by rfl) _ _ (by rfl) w LB LB (.slice a1 x.ds.length c1) x.ds (by rfl) (by rfl) kLc HD.out (below_on hbc hbz) (Nat.le_refl _) (by omega) ?_
    intro aa ca xs y20 HRc hdv hgr
    have hsW := hbc.size
    have hLW : LB ≤ y20.heap.size := Nat.le_trans (Nat.le_of_lt kLc.lt) hgr.size
    replace kNc : Blk y20 NN #[.int .i64 2, .slice (some ⟨G, 0, none⟩) 2 c5, .int .i64 WD, .int .i64 LN] 52 := (hgr.block _ kNc.lt (fun e => by have := Option.some.inj e; omega)).trans kNc
    replace kEc : Blk y20 NB #[.int .i64 x.nets, .slice a1 x.ds.length c1, .slice a2 x.ps.length c2] 31 := (hgr.block _ kEc.lt (fun e => by have := Option.some.inj e; omega)).trans kEc
    replace kRc : Blk y20 (NB + 1) #[.int .i64 0, .slice none 0 0, .slice none 0 0] 31 := (hgr.block _ kRc.lt (fun e => by have := Option.some.inj e; omega)).trans kRc
    replace kDc : Blk y20 DB #[.int .i64 2, .slice (some ⟨G, 0, none⟩) 2 c5, .int .i64 WD, .int .i64 LN] 52 := (hgr.block _ kDc.lt (fun e => by have := Option.some.inj e; omega)).trans kDc
    replace kGc : Blk y20 G cs 2 := (hgr.block _ kGc.lt (fun e => by have := Option.some.inj e; omega)).trans kGc
    replace hbc : Below w3.heap.size w3 y20 := hbc.grown hgr hsW (fun q hq => by have := Option.some.inj hq; omega)
    refine hK.out _ _ (fun _ => ⟨kEc, kDc⟩) ?_
    try simp only [Act.put, List.setIfInBounds_toArray, List.set_cons_zero, List.set_cons_succ]
    clear hK hgr hsW
    refine wpAnyE_oneL (k := 8) (by kernel_rfl) rfl (fun K hK => ?_)
    refine step_oneD2 (by rfl) _ _ (by rfl) LB NN x.ds.length (.slice aa x.ds.length ca) (.slice (some ⟨G, 0, none⟩) 2 c5) xs 2 WD LN (by rfl) (by rfl) HRc rfl kNc hLW (by omega) ?_
    intro ab cb y21 HR2 hgr
    have hown := fun q (hq : (Value.slice aa x.ds.length ca).ownBlock = some q) => (HRc.lt q hq)
    have hsW := hbc.size
    replace kEc : Blk y21 NB #[.int .i64 x.nets, .slice a1 x.ds.length c1, .slice a2 x.ps.length c2] 31 := (hgr.block _ kEc.lt (fun e => by have := hown _ e.symm; omega)).trans kEc
    replace kRc : Blk y21 (NB + 1) #[.int .i64 0, .slice none 0 0, .slice none 0 0] 31 := (hgr.block _ kRc.lt (fun e => by have := hown _ e.symm; omega)).trans kRc
    replace kDc : Blk y21 DB #[.int .i64 2, .slice (some ⟨G, 0, none⟩) 2 c5, .int .i64 WD, .int .i64 LN] 52 := (hgr.block _ kDc.lt (fun e => by have := hown _ e.symm; omega)).trans kDc
    replace kGc : Blk y21 G cs 2 := (hgr.block _ kGc.lt (fun e => by have := hown _ e.symm; omega)).trans kGc
    replace hbc : Below w3.heap.size w3 y21 := hbc.grown hgr hsW (fun q hq => by have := hown _ hq; omega)
    refine hK.out _ _ (fun _ => ⟨kEc, kDc⟩) ?_
    try simp only [Act.put, List.setIfInBounds_toArray, List.set_cons_zero, List.set_cons_succ]
    clear hK hgr hsW hown HRc
    refine wpAnyE_oneL (k := 11) (by kernel_rfl) rfl (fun K hK => ?_)
    go_simp
    refine hK.out _ _ (fun _ => ⟨kEc, kDc⟩) ?_
    try simp only [Act.put, List.setIfInBounds_toArray, List.set_cons_zero, List.set_cons_succ]
    clear hK
    refine wpAnyE_oneL (k := 12) (by kernel_rfl) rfl (fun K hK => ?_)
    have cR := kRc.cell
    have fR := kRc.free
    have lR := kRc.lt
    go_simp
    have hne : ∀ q, (Value.slice ab (x.ds.length + 1) cb).ownBlock = some q → q ≠ NB + 1 := fun q hq => by have := HR2.lt q hq; omega
    have hne2 : DB ≠ NB + 1 := by omega
    have hne0 : NB ≠ NB + 1 := by omega
    have hNB1 : w.heap.size ≤ NB + 1 := by omega
    have HR3 : World.ownsRow (((y21.setCell ⟨NB + 1, 0, none⟩ (.int .i64 x.nets)).setCell ⟨NB + 1, 1, none⟩ (.slice ab (x.ds.length + 1) cb)).setCell ⟨NB + 1, 2, none⟩ (.slice a2 x.ps.length c2)) LB 52 4 (.slice ab (x.ds.length + 1) cb) (x.ds.length + 1) (xs ++ [.int .i64 2, .slice (some ⟨G, 0, none⟩) 2 c5, .int .i64 WD, .int .i64 LN]) := row_same (row_same (row_same HR2 (fun q hq => Below.heap_setCell _ ⟨NB + 1, 0, none⟩ _ q (hne q hq))) (fun q hq => Below.heap_setCell _ ⟨NB + 1, 1, none⟩ _ q (hne q hq))) (fun q hq => Below.heap_setCell _ ⟨NB + 1, 2, none⟩ _ q (hne q hq))
    have kRz : Blk (((y21.setCell ⟨NB + 1, 0, none⟩ (.int .i64 x.nets)).setCell ⟨NB + 1, 1, none⟩ (.slice ab (x.ds.length + 1) cb)).setCell ⟨NB + 1, 2, none⟩ (.slice a2 x.ps.length c2)) (NB + 1) #[.int .i64 x.nets, .slice ab (x.ds.length + 1) cb, .slice a2 x.ps.length c2] 31 := ((kRc.set 0 _).set 1 _).set 2 _
    have kGz : Blk (((y21.setCell ⟨NB + 1, 0, none⟩ (.int .i64 x.nets)).setCell ⟨NB + 1, 1, none⟩ (.slice ab (x.ds.length + 1) cb)).setCell ⟨NB + 1, 2, none⟩ (.slice a2 x.ps.length c2)) G cs 2 := ((kGc.apart _ _ _ hGR).apart _ _ _ hGR).apart _ _ _ hGR
    have hbw : Below w.heap.size w (((y21.setCell ⟨NB + 1, 0, none⟩ (.int .i64 x.nets)).setCell ⟨NB + 1, 1, none⟩ (.slice ab (x.ds.length + 1) cb)).setCell ⟨NB + 1, 2, none⟩ (.slice a2 x.ps.length c2)) := (((below_on hbc hbz).setCell hNB1 _).setCell hNB1 _).setCell hNB1 _
    refine hK.out _ _ (fun _ => ⟨((kEc.apart _ _ _ hne0).apart _ _ _ hne0).apart _ _ _ hne0, ((kDc.apart _ _ _ hne2).apart _ _ _ hne2).apart _ _ _ hne2⟩) ?_
    try simp only [Act.put, List.setIfInBounds_toArray, List.set_cons_zero, List.set_cons_succ]
    clear hK cR fR lR hne hne2 HR2
    generalize ((y21.setCell ⟨NB + 1, 0, none⟩ (.int .i64 x.nets)).setCell ⟨NB + 1, 1, none⟩ (.slice ab (x.ds.length + 1) cb)).setCell ⟨NB + 1, 2, none⟩ (.slice a2 x.ps.length c2) = y22 at *
    refine wpAnyE_oneL (k := 13) (by kernel_rfl) rfl (fun K hK => ?_)
    go_simp
    refine hK.out _ _ (fun h => absurd rfl h) ?_
    refine wpAnyE_done (by kernel_rfl) ?_ _
    clear hS
    have cRz := kRz.cell
    have lRz := kRz.lt
    have HFI := Lib.hid (row_sl2 (d := ⟨2, zs.take 2, WD, LN⟩) HR3 rfl hdv hbw (pins_of kGz HCE.out (HZ.out) hl2))
    go_wp2
    refine bodyPost_ret (v := .tuple #[.agg #[.int .i64 x.nets, .slice ab (x.ds.length + 1) cb, .slice a2 x.ps.length c2], .bool true]) (by simp [results, Tryd.results33, go_sem, *]) rfl ⟨_, by rw [HL.out]; rfl, fun y hy => ?_, hbw, _, _, _, _, _, _, _, rfl⟩
    rw [HL.out] at hy
    obtain rfl := (Option.some.inj hy).symm
    exact ⟨_, _, rfl, HFI.out, HP.out.by hbw⟩
end Go.Proofs.YtglddnkpccgchaaDoor
