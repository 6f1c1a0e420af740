/- The reference's sorted copies of devices. -/
import Derived.Test.YtpiiccfjkgimfaaSrtP
import Derived.Test.YtpiiccfjkgimfaaCopies
import Derived.Test.YtpiiccfjkgimfaaCmps
import Derived.Test.YtpiiccfjkgimfaaNorms
import Derived.Deep.RegionHeldLaw
import Derived.Deep.RegionLaw
namespace Go.Proofs.Ytpiiccfjkgimfaa
open Go.RowKit
set_option linter.unusedVariables false
set_option linter.unusedSimpArgs false

theorem OwnI.pin0 {w : World} {lo : Nat} {sv : Value} {zs : List Int} (h : OwnI w lo sv zs) (hl : lo < w.heap.size) : ∃ g, lo ≤ g ∧ g < w.heap.size ∧ OwnR w g (g + 1) sv zs := by
  rcases h with h | ⟨g, cap, cs, h1, h2, h3, h4, h5, h6⟩
  · exact ⟨lo, Nat.le_refl _, hl, .inl h⟩
  · exact ⟨g, h2, h5.lt, .inr ⟨g, cap, cs, h1, Nat.le_refl _, Nat.lt_succ_self _, h3, h4, h5, h6⟩⟩

set_option maxRecDepth 100000 in
set_option maxHeartbeats 4000000 in
theorem specSorted_any (ds : List Dv) (sv : Value) (w : World) (h : DvSl w sv ds) (hn : ds.length ≤ 400) (hpn : ∀ d ∈ ds, d.pins.length ≤ 1048576 ∧ d.pins ≠ []) :
    Calls Try.prog 64 #[sv] w fun e w' => ∃ v', e = .returned v' ∧ OwnDs w' w.heap.size w'.heap.size v' (srtD ds) ∧ Below w.heap.size w w' := by
  have HDS := Lib.hid h
  have HPN := Lib.hid hpn
  obtain ⟨a1, c1, rfl⟩ := h.sized
  clear h hpn
  go_enter Try.func64, Try.ntmps64
  go_wp2
  go_loopw [3, 4] (fun sv vi wr => ∃ (k g c : Nat) (L : List Tr), k ≤ ds.length ∧ k ≤ c ∧ vi = .int .i64 k ∧ sv = .slice (some ⟨g, 0, none⟩) k c ∧ Hid (L.length = k) ∧ Hid (Out wr w.heap.size (.slice (some ⟨g, 0, none⟩) k c) L) ∧ Hid (Asc L) ∧ Hid ((L.map (·.1)).Perm (ds.take k)) ∧ Below w.heap.size w wr) (fun _ vi _ => ds.length - (intOf vi).toNat)
  case atStart =>
    refine ⟨0, _, _, [], Nat.zero_le _, Nat.zero_le _, rfl, rfl, Lib.hid rfl, Lib.hid ⟨?_, ?_, (fun t ht => by simp at ht), by simp⟩, Lib.hid (by unfold Asc; exact List.Pairwise.nil), Lib.hid (by simp), (by ((repeat (first | (with_reducible exact Below.refl _ _) | (with_reducible refine below_drewN ?_ _) | (with_reducible refine Below.drew ?_) | (with_reducible refine below_al ?_ _) | (with_reducible refine below_on (by assumption) ?_) | ((with_reducible refine Below.setCell ?_ ?_ _); rotate_left; focus (first | omega | (simp; done) | (simp; omega))) | (with_reducible assumption))); done))⟩
    · simp
    · exact row_lit (L := []) (Blk.new _ rfl) rfl (Nat.le_refl _) (by omega)
  case round =>
    obtain ⟨k, g, cv, L, hk, hkc, rfl, rfl, HLL, HO, HA, HP, hb⟩ := hrel
    by_cases hlt : k < ds.length
    · obtain ⟨x, hx⟩ : ∃ x, ds[k]? = some x := ⟨ds[k], List.getElem?_eq_getElem hlt⟩
      have HD := HDS.out
      rcases HD with ⟨_, _, _, h2⟩ | ⟨b, off, cap, he, h2, h3, h4⟩
      · rw [h2] at hlt; simp at hlt
      obtain ⟨rfl, rfl⟩ : a1 = some ⟨b, off, none⟩ ∧ c1 = cap := by simpa using he
      obtain ⟨sx, e1, e2, e3, e4, hSx⟩ := h4 k x hx
      have HSX := Lib.hid hSx
      have HX := Lib.hid hx
      obtain ⟨hxl, hxn⟩ := HPN.out x (List.mem_of_getElem? hx)
      have HXN := Lib.hid hxn
      have HOW := Lib.hid (fun w h => own_any x.kind x.wd x.len sx x.pins w h hxl)
      obtain ⟨ax, cx, rfl⟩ := hSx.len
      have i1 : (0 : Int) ≤ (k : Int) := by omega
      have i2 : (k : Int) < (ds.length : Int) := by omega
      have i2c : (k : Int) ≤ (cv : Int) := by omega
      have HE1 := Lib.hid e1
      have HE2 := Lib.hid e2
      have HE3 := Lib.hid e3
      have HE4 := Lib.hid e4
      have HQ0 := Lib.hid (show ∀ i y, k ≤ i → L[i]? = some y → dlt x y.1 = true from fun i y hi hy => by have := (List.getElem?_eq_some_iff.1 hy).1; rw [HLL.out] at this; omega)
      clear h4 hx hSx he e1 e2 e3 e4 hxn
      obtain ⟨wo, rfl⟩ : ∃ wo, wo = wr := ⟨_, rfl⟩
      go_wp2
      go_loopw [5] (fun vq wr => ∃ (q : Nat), q ≤ k ∧ vq = .int .i64 q ∧ Hid (∀ i y, q ≤ i → L[i]? = some y → dlt x y.1 = true) ∧ Hid (Out wr w.heap.size (.slice (some ⟨g, 0, none⟩) k cv) L) ∧ Below w.heap.size w wr) (fun vq _ => (intOf vq).toNat)
      case atStart => exact ⟨k, Nat.le_refl _, rfl, HQ0, HO, hb⟩
      case round =>
        clear HO hb HQ0
        obtain ⟨q, hq, rfl, HQ, HO, hb⟩ := hrel
        by_cases hq0 : 0 < q
        · obtain ⟨qp, rfl⟩ : ∃ qp, q = qp + 1 := ⟨q - 1, by omega⟩
          have d1 := cell_by' hb HE1.out
          have d2 := cell_by' hb HE2.out
          have d3 := cell_by' hb HE3.out
          have d4 := cell_by' hb HE4.out
          have hSx := HSX.out.by hb
          obtain ⟨t, ht⟩ : ∃ t, L[qp]? = some t := ⟨L[qp]'(by rw [HLL.out]; omega), List.getElem?_eq_getElem _⟩
          obtain ⟨hl0, hrow, hts, _⟩ := HO.out
          obtain ⟨⟨hot, _, _⟩, _⟩ := hts t (List.mem_of_getElem? ht)
          rw [HLL.out] at hrow
          obtain ⟨z1, z2, z3, z4⟩ := tcells_get L qp t ht
          have p1 := hrow.cells rfl _ _ z1
          have p2 := hrow.cells rfl _ _ z2
          have p3 := hrow.cells rfl _ _ z3
          have p4 := hrow.cells rfl _ _ z4
          simp only [Addr.add_lit, Nat.zero_add] at p1 p2 p3 p4
          have HT := Lib.hid ht
          have HNX := Lib.hid (show dlt x t.1 = true → ∀ i y, qp ≤ i → L[i]? = some y → dlt x y.1 = true from fun hd i y hi hy => by
            by_cases e : i = qp
            · subst e; rw [HT.out] at hy; cases hy; exact hd
            · exact HQ.out i y (by omega) hy)
          have HLT := Lib.hid (show dlt x t.1 = decide (dcf x t.1 < 0) from rfl)
          have HST := Lib.hid (show dlt x t.1 = false → ∀ y, L[qp + 1 - 1]? = some y → dlt x y.1 = false from fun hd y hy => by
            rw [Nat.add_sub_cancel, HT.out] at hy; cases hy; exact hd)
          have HCL := Lib.hid (fun W h1 h2 => specCompareDevices_any x.kind x.wd x.len t.1.kind t.1.wd t.1.len (.slice ax x.pins.length cx) t.2.1 x.pins t.1.pins W h1 h2)
          have HCF := Lib.hid (show devcmp x.kind t.1.kind x.pins t.1.pins x.wd t.1.wd x.len t.1.len = dcf x t.1 from rfl)
          rw [HCF.out] at HCL
          generalize dcf x t.1 = r at HCL HLT
          generalize dlt x t.1 = lt at HNX HLT HST
          obtain ⟨ay, cy, hty⟩ := hot.sl.len
          rw [hty] at p2 hot HCL
          have HY := Lib.hid hot.sl
          have HSW := Lib.hid hSx
          generalize t.1 = y at p1 p2 p3 p4 HCL HY
          have i3 : (0 : Int) < (qp : Int) + 1 := by omega
          have i4 : (qp : Int) < (k : Int) := by omega
          have wq : IntKind.i64.wrap (qp : Int) = (qp : Int) := by rw [IntKind.wrap_i64]; omega
          have hbl := lt_of_cell d1
          have hgl2 := lt_of_cell p1
          dsimp only at hbl hgl2
          have HSB : ∀ w' : World, Below wr.heap.size wr w' → (fun w' => w'.cell? ⟨b, off + k * 4, none⟩ = some (.int .i64 x.kind) ∧ w'.cell? ⟨b, off + k * 4 + 1, none⟩ = some (.slice ax x.pins.length cx) ∧ w'.cell? ⟨b, off + k * 4 + 2, none⟩ = some (.int .i64 x.wd) ∧ w'.cell? ⟨b, off + k * 4 + 3, none⟩ = some (.int .i64 x.len) ∧ w'.cell? ⟨g, qp * 4, none⟩ = some (.int .i64 y.kind) ∧ w'.cell? ⟨g, qp * 4 + 1, none⟩ = some (.slice ay y.pins.length cy) ∧ w'.cell? ⟨g, qp * 4 + 2, none⟩ = some (.int .i64 y.wd) ∧ w'.cell? ⟨g, qp * 4 + 3, none⟩ = some (.int .i64 y.len) ∧ Below wr.heap.size wr w') w' := fun w' hb => ⟨cell_by' hb d1, cell_by' hb d2, cell_by' hb d3, cell_by' hb d4, cell_by' hb p1, cell_by' hb p2, cell_by' hb p3, cell_by' hb p4, hb⟩
          clear ht hot hrow hts z1 z2 z3 z4 hty hSx HCF
          by_cases hr : r < 0
          · have HLT2 := Lib.hid (HLT.out.trans (decide_eq_true hr))
            go_wp2_with fail
            go_region_held3 (fun w' => w'.cell? ⟨b, off + k * 4, none⟩ = some (.int .i64 x.kind) ∧ w'.cell? ⟨b, off + k * 4 + 1, none⟩ = some (.slice ax x.pins.length cx) ∧ w'.cell? ⟨b, off + k * 4 + 2, none⟩ = some (.int .i64 x.wd) ∧ w'.cell? ⟨b, off + k * 4 + 3, none⟩ = some (.int .i64 x.len) ∧ w'.cell? ⟨g, qp * 4, none⟩ = some (.int .i64 y.kind) ∧ w'.cell? ⟨g, qp * 4 + 1, none⟩ = some (.slice ay y.pins.length cy) ∧ w'.cell? ⟨g, qp * 4 + 2, none⟩ = some (.int .i64 y.wd) ∧ w'.cell? ⟨g, qp * 4 + 3, none⟩ = some (.int .i64 y.len) ∧ Below wr.heap.size wr w') (((try (obtain ⟨_, _, _, _, _, _, _, _, hSB⟩ := hHeld)); refine HSB _ ?_; ((repeat (first | (with_reducible exact Below.refl _ _) | (with_reducible refine below_drewN ?_ _) | (with_reducible refine Below.drew ?_) | (with_reducible refine below_al ?_ _) | (with_reducible refine below_on (by assumption) ?_) | ((with_reducible refine Below.setCell ?_ ?_ _); rotate_left; focus (first | omega | (simp; done) | (simp; omega))) | (with_reducible assumption))); done)))
              (first | (go_at_call 104; refine (HCL.out _ (HSW.out.by (by ((repeat (first | (with_reducible exact Below.refl _ _) | (with_reducible refine below_drewN ?_ _) | (with_reducible refine Below.drew ?_) | (with_reducible refine below_al ?_ _) | (with_reducible refine below_on (by assumption) ?_) | ((with_reducible refine Below.setCell ?_ ?_ _); rotate_left; focus (first | omega | (simp; done) | (simp; omega))) | (with_reducible assumption))); done))) (HY.out.by (by ((repeat (first | (with_reducible exact Below.refl _ _) | (with_reducible refine below_drewN ?_ _) | (with_reducible refine Below.drew ?_) | (with_reducible refine below_al ?_ _) | (with_reducible refine below_on (by assumption) ?_) | ((with_reducible refine Below.setCell ?_ ?_ _); rotate_left; focus (first | omega | (simp; done) | (simp; omega))) | (with_reducible assumption))); done)))).mono ?_; rintro e w1 ⟨rfl, hb1⟩))
            all_goals
              have hb2 : Below wr.heap.size wr w1 := (by ((repeat (first | (with_reducible exact Below.refl _ _) | (with_reducible refine below_drewN ?_ _) | (with_reducible refine Below.drew ?_) | (with_reducible refine below_al ?_ _) | (with_reducible refine below_on (by assumption) ?_) | ((with_reducible refine Below.setCell ?_ ?_ _); rotate_left; focus (first | omega | (simp; done) | (simp; omega))) | (with_reducible assumption))); done))
              go_wp2_with fail
              exact ⟨⟨qp, by omega, by rfl, Lib.hid (HNX.out HLT2.out), Lib.hid (HO.out.by hb2), below_on hb2 hb⟩, by simp [intOf]⟩
          · have HLT2 := Lib.hid (HLT.out.trans (decide_eq_false hr))
            go_wp2_with fail
            go_region_held3 (fun w' => w'.cell? ⟨b, off + k * 4, none⟩ = some (.int .i64 x.kind) ∧ w'.cell? ⟨b, off + k * 4 + 1, none⟩ = some (.slice ax x.pins.length cx) ∧ w'.cell? ⟨b, off + k * 4 + 2, none⟩ = some (.int .i64 x.wd) ∧ w'.cell? ⟨b, off + k * 4 + 3, none⟩ = some (.int .i64 x.len) ∧ w'.cell? ⟨g, qp * 4, none⟩ = some (.int .i64 y.kind) ∧ w'.cell? ⟨g, qp * 4 + 1, none⟩ = some (.slice ay y.pins.length cy) ∧ w'.cell? ⟨g, qp * 4 + 2, none⟩ = some (.int .i64 y.wd) ∧ w'.cell? ⟨g, qp * 4 + 3, none⟩ = some (.int .i64 y.len) ∧ Below wr.heap.size wr w') (((try (obtain ⟨_, _, _, _, _, _, _, _, hSB⟩ := hHeld)); refine HSB _ ?_; ((repeat (first | (with_reducible exact Below.refl _ _) | (with_reducible refine below_drewN ?_ _) | (with_reducible refine Below.drew ?_) | (with_reducible refine below_al ?_ _) | (with_reducible refine below_on (by assumption) ?_) | ((with_reducible refine Below.setCell ?_ ?_ _); rotate_left; focus (first | omega | (simp; done) | (simp; omega))) | (with_reducible assumption))); done)))
              (first | (go_at_call 104; refine (HCL.out _ (HSW.out.by (by ((repeat (first | (with_reducible exact Below.refl _ _) | (with_reducible refine below_drewN ?_ _) | (with_reducible refine Below.drew ?_) | (with_reducible refine below_al ?_ _) | (with_reducible refine below_on (by assumption) ?_) | ((with_reducible refine Below.setCell ?_ ?_ _); rotate_left; focus (first | omega | (simp; done) | (simp; omega))) | (with_reducible assumption))); done))) (HY.out.by (by ((repeat (first | (with_reducible exact Below.refl _ _) | (with_reducible refine below_drewN ?_ _) | (with_reducible refine Below.drew ?_) | (with_reducible refine below_al ?_ _) | (with_reducible refine below_on (by assumption) ?_) | ((with_reducible refine Below.setCell ?_ ?_ _); rotate_left; focus (first | omega | (simp; done) | (simp; omega))) | (with_reducible assumption))); done)))).mono ?_; rintro e w1 ⟨rfl, hb1⟩))
            all_goals
              have hb2 : Below wr.heap.size wr w1 := (by ((repeat (first | (with_reducible exact Below.refl _ _) | (with_reducible refine below_drewN ?_ _) | (with_reducible refine Below.drew ?_) | (with_reducible refine below_al ?_ _) | (with_reducible refine below_on (by assumption) ?_) | ((with_reducible refine Below.setCell ?_ ?_ _); rotate_left; focus (first | omega | (simp; done) | (simp; omega))) | (with_reducible assumption))); done))
              have hb1w : Below w.heap.size w w1 := below_on hb2 hb
              have HO1 := Lib.hid (HO.out.by hb2)
              go_wp2_with fail
              have HL1 := Lib.hid (show qp + 1 = 0 ∨ ∀ y, L[qp + 1 - 1]? = some y → dlt x y.1 = false from .inr (HST.out HLT2.out))
              clear d1 d2 d3 d4 p1 p2 p3 p4 HSB HCL HNX HLT HST HSW HY HLT2 hr HO hb hbl hgl2 hb1 hb2
              obtain ⟨q, hqq⟩ : ∃ q, qp + 1 = q := ⟨_, rfl⟩
              rw [hqq] at HL1 hq HQ
              have hq1 : 0 < q := by omega
              rw [show ((qp : Int) + 1) = (q : Int) by omega]
              clear hqq i3 i4 wq
              by_cases hkq : k = q
              · rw [← hkq] at HL1 HQ ⊢
                have HQ1 := HQ
                have HKQ := Lib.hid hkq
                have hk1 : 0 < k := by omega
                clear hkq hq hq1
                have d1 := cell_by' hb1w HE1.out
                have d2 := cell_by' hb1w HE2.out
                have d3 := cell_by' hb1w HE3.out
                have d4 := cell_by' hb1w HE4.out
                have HSW := Lib.hid (HSX.out.by hb1w)
                have hbl := lt_of_cell d1
                dsimp only at hbl
                have hlo1 := hb1w.size
                go_region_law
                  (first | (go_simp; go_at_call 105; refine (HOW.out _ (HSW.out.by (by ((repeat (first | (with_reducible exact Below.refl _ _) | (with_reducible refine below_drewN ?_ _) | (with_reducible refine Below.drew ?_) | (with_reducible refine below_al ?_ _) | (with_reducible refine below_on (by assumption) ?_) | ((with_reducible refine Below.setCell ?_ ?_ _); rotate_left; focus (first | omega | (simp; done) | (simp; omega))) | (with_reducible assumption))); done)))).mono ?_; rintro e w2 ⟨pv, rfl, hOI, hb2⟩; obtain ⟨f, hf1, hf2, hOR⟩ := hOI.pin HXN.out; have HOR := Lib.hid hOR; obtain ⟨ap, cp, rfl⟩ := hOR.sl.len; clear hOR hOI; have hf0 : w1.heap.size ≤ f := hf1; have hb21 : Below w1.heap.size w1 w2 := (by ((repeat (first | (with_reducible exact Below.refl _ _) | (with_reducible refine below_drewN ?_ _) | (with_reducible refine Below.drew ?_) | (with_reducible refine below_al ?_ _) | (with_reducible refine below_on (by assumption) ?_) | ((with_reducible refine Below.setCell ?_ ?_ _); rotate_left; focus (first | omega | (simp; done) | (simp; omega))) | (with_reducible assumption))); done)); have HO2 := Lib.hid (HO1.out.by hb21); have hsz21 := hb21.size; dsimp only) | (refine step_appZ (by rfl) _ _ (by rfl) _ 1 1 _ _ (by rfl) (by rfl) (Nat.le_refl _) ?_))
                all_goals
                  have k3 : Blk (w2.alloc (.cells #[.int .i64 x.kind, .slice ap x.pins.length cp, .int .i64 x.wd, .int .i64 x.len] 55)) w2.heap.size #[.int .i64 x.kind, .slice ap x.pins.length cp, .int .i64 x.wd, .int .i64 x.len] 55 := Blk.new _ rfl
                  have hb3 : Below w1.heap.size w1 (w2.alloc (.cells #[.int .i64 x.kind, .slice ap x.pins.length cp, .int .i64 x.wd, .int .i64 x.len] 55)) := below_al hb21 _
                  have HR3 := Lib.hid (row_lit (lo := w.heap.size) (n := 1) (L := [(x, Value.slice ap x.pins.length cp, f)]) k3 rfl (by omega) (by omega))
                  have HF3 := Lib.hid (HOR.out.by ((Below.refl _ w2).alloc (Nat.le_refl _) (.cells #[.int .i64 x.kind, .slice ap x.pins.length cp, .int .i64 x.wd, .int .i64 x.len] 55)))
                  obtain ⟨gr, hgr0⟩ : ∃ gr, w2.heap.size = gr := ⟨_, rfl⟩
                  obtain ⟨w3, hw3⟩ : ∃ w3, w2.alloc (.cells #[.int .i64 x.kind, .slice ap x.pins.length cp, .int .i64 x.wd, .int .i64 x.len] 55) = w3 := ⟨_, rfl⟩
                  have hgr : w1.heap.size ≤ gr ∧ f < gr ∧ gr < w3.heap.size := by rw [← hw3]; simp; omega
                  rw [hgr0] at HR3 ⊢
                  rw [hw3] at hb3 HR3 HF3 ⊢
                  clear hw3 hgr0 k3
                  have HO3 := Lib.hid (HO1.out.by hb3)
                  have hb3w := below_on hb3 hb1w
                  have hsz3 := hb3.size
                  clear hb21 HO2 hsz21 HOR d1 d2 d3 d4 hbl
                  have HZ4 := Lib.hid (row_lit (lo := w.heap.size) (n := 0) (L := []) (Blk.new (w := w3) (T := 55) w3.heap.size rfl) rfl (by omega) (by omega))
                  have HRA := Lib.hid (HR3.out.kept (World.grownBy_alloc w3 (.cells #[] 55) none) (.inr (by simp [Value.ownBlock])))
                  go_wp2_with (first | (refine list_appT (by rfl) _ _ (by rfl) w.heap.size _ 0 [] (by rfl) HZ4.out ⟨g, 0, none⟩ k cv (tcells (L.take k)) (by rfl) (by rw [length_tcells, List.length_take, HLL.out]; omega) (row_news0 (by have := (HO3.out.by ((Below.refl _ w3).alloc (Nat.le_refl _) (.cells #[] 55))).2.1; rw [HLL.out] at this; exact this) k) (tcells_one (fun t ht => HO3.out.one t (List.mem_of_mem_take ht))) (by omega) (by omega) (by simp; omega) ?_; intro g4 c4 w4 hR4 hG4 hg4; simp only [Nat.zero_add, List.nil_append] at hR4; have HR4 := Lib.hid hR4; have HG4 := Lib.hid hG4; have HG4' := Lib.hid hg4; have HRB := Lib.hid (HRA.out.kept hG4 (.inr (by simp [Value.ownBlock]; omega))); have hlo4 := hG4.size; (try simp only [World.size_alloc] at hlo4); clear hR4 hG4 hg4) | (refine list_appT (by rfl) _ _ (by rfl) w.heap.size _ k _ (by rfl) HR4.out ⟨gr, 0, none⟩ 1 _ (tcells [(x, Value.slice ap x.pins.length cp, f)]) (by rfl) (by rw [length_tcells]; rfl) (fun j u hu => HRB.out.cells rfl j u hu) (tcells_one (L := [(x, Value.slice ap x.pins.length cp, f)]) (fun t ht => by obtain rfl : t = _ := List.mem_singleton.1 ht; rfl)) (by omega) (by omega) (by omega) ?_; intro g5 c5 w5 hR5 hG5 hg5; have HR5 := Lib.hid hR5; clear hR5))
                  have hg4 : w3.heap.size ≤ g4 := by
                    rcases HG4'.out with e | e
                    · have : w3.heap.size = g4 := by injection e
                      omega
                    · simp at e; omega
                  have hW4 : Within w3.heap.size (w3.heap.size + 1) (w3.alloc (.cells #[] 55)) w4 := grown_within HG4.out (fun g' e => by have : w3.heap.size = g' := (by injection e); omega)
                  have hb4 : Below w3.heap.size w3 w4 := hW4.below (below_al (Below.refl _ w3) _) (Nat.le_refl _)
                  have hW5 : Within g4 (g4 + 1) w4 w5 := grown_within hG5 (fun g' e => by have : g4 = g' := (by injection e); omega)
                  have hb5 : Below w3.heap.size w3 w5 := hW5.below hb4 (by omega)
                  have hg5' : w3.heap.size ≤ g5 := by
                    rcases hg5 with e | e
                    · have : g4 = g5 := by injection e
                      omega
                    · omega
                  have en5 : (k + 1) = k + 1 := by omega
                  have HR6 := HR5.out
                  rw [en5] at HR6
                  have hb5w := below_on hb5 hb3w
                  have hb51 := below_on hb5 hb3
                  have hfin := Out.insert (q := k) (f := f) (pv := .slice ap x.pins.length cp) (x := x) HO1.out HLL.out hb51 (by omega) (HF3.out.by hb5) (by omega) (by have := hb5.size; omega) (by omega) (by omega) (show w5.ownsRow w.heap.size 55 4 (.slice (some ⟨g5, 0, none⟩) (k + 1) c5) (k + 1) (tcells (L.take k) ++ (tcells [(x, Value.slice ap x.pins.length cp, f)] ++ tcells (L.drop k))) from by
                    have ed : L.drop k = [] := List.drop_eq_nil_of_le (by rw [HLL.out]; exact Nat.le_refl _)
                    rw [ed]
                    simpa [tcells] using HR6)
                  have hasc := HA.out.insert (x, .slice ap x.pins.length cp, f) k (by rw [HLL.out]; omega) HL1.out HQ1.out
                  have hkc5 : k + 1 ≤ c5 := by
                    rcases HR6.2 with ⟨e, _⟩ | ⟨_, _, _, e, _, _, h, _⟩
                    · cases e
                    · have : c5 = _ := (by injection e); omega
                  have hpm : ((L.take k ++ ((x, Value.slice ap x.pins.length cp, f) :: L.drop k)).map (·.1)).Perm (ds.take (k + 1)) := by
                    rw [take_snoc_of ds k x HX.out]
                    refine ((insert_perm L (x, Value.slice ap x.pins.length cp, f) k).map _).trans ?_
                    rw [List.map_append]
                    exact HP.out.append_right _
                  have hlen : (L.take k ++ ((x, Value.slice ap x.pins.length cp, f) :: L.drop k)).length = k + 1 := by rw [(insert_perm L _ k).length_eq, List.length_append, HLL.out]; rfl
                  (try rw [en5])
                  exact ⟨⟨k + 1, g5, c5, _, by omega, hkc5, by go_num, by first | rfl | (congr 1; omega), Lib.hid hlen, Lib.hid hfin, Lib.hid hasc, Lib.hid hpm, hb5w⟩, by simp [intOf]; omega⟩
              · have hqk : q < k := by omega
                have hcq : ¬ cv = q := by omega
                have iq1 : (0 : Int) ≤ (q : Int) := by omega
                have iq2 : (q : Int) ≤ (k : Int) := by omega
                have iq3 : (q : Int) ≤ (cv : Int) := by omega
                have HQ1 := HQ
                clear hkq
                have d1 := cell_by' hb1w HE1.out
                have d2 := cell_by' hb1w HE2.out
                have d3 := cell_by' hb1w HE3.out
                have d4 := cell_by' hb1w HE4.out
                have HSW := Lib.hid (HSX.out.by hb1w)
                have hbl := lt_of_cell d1
                dsimp only at hbl
                have hlo1 := hb1w.size
                go_region_law
                  (first | (go_simp; go_at_call 105; refine (HOW.out _ (HSW.out.by (by ((repeat (first | (with_reducible exact Below.refl _ _) | (with_reducible refine below_drewN ?_ _) | (with_reducible refine Below.drew ?_) | (with_reducible refine below_al ?_ _) | (with_reducible refine below_on (by assumption) ?_) | ((with_reducible refine Below.setCell ?_ ?_ _); rotate_left; focus (first | omega | (simp; done) | (simp; omega))) | (with_reducible assumption))); done)))).mono ?_; rintro e w2 ⟨pv, rfl, hOI, hb2⟩; obtain ⟨f, hf1, hf2, hOR⟩ := hOI.pin HXN.out; have HOR := Lib.hid hOR; obtain ⟨ap, cp, rfl⟩ := hOR.sl.len; clear hOR hOI; have hf0 : w1.heap.size ≤ f := hf1; have hb21 : Below w1.heap.size w1 w2 := (by ((repeat (first | (with_reducible exact Below.refl _ _) | (with_reducible refine below_drewN ?_ _) | (with_reducible refine Below.drew ?_) | (with_reducible refine below_al ?_ _) | (with_reducible refine below_on (by assumption) ?_) | ((with_reducible refine Below.setCell ?_ ?_ _); rotate_left; focus (first | omega | (simp; done) | (simp; omega))) | (with_reducible assumption))); done)); have HO2 := Lib.hid (HO1.out.by hb21); have hsz21 := hb21.size; dsimp only) | (refine step_appT (by rfl) _ _ (by rfl) w.heap.size _ 1 (tcells [(x, Value.slice ap x.pins.length cp, f)]) (by rfl) (row_lit (n := 1) (L := [(x, Value.slice ap x.pins.length cp, f)]) (Blk.new _ rfl) rfl (by omega) (by omega)) ⟨g, q * 4, none⟩ (k - q) (cv - q) (tcells (L.drop q)) (by rfl) (by rw [length_tcells, List.length_drop, HLL.out]) (row_news (by have := (HO2.out.by ((Below.refl _ w2).alloc (Nat.le_refl _) (.cells #[.int .i64 x.kind, .slice ap x.pins.length cp, .int .i64 x.wd, .int .i64 x.len] 55))).2.1; rw [HLL.out] at this; exact this) q) (tcells_one (fun t ht => HO2.out.one t (List.mem_of_mem_drop ht))) (by omega) (by omega) (by simp; omega) ?_; intro gr cr w3 hR3 hG3 hg3; have HR3 := Lib.hid hR3; clear hR3))
                all_goals
                  have hW3 : Within w2.heap.size (w2.heap.size + 1) (w2.alloc (.cells #[.int .i64 x.kind, .slice ap x.pins.length cp, .int .i64 x.wd, .int .i64 x.len] 55)) w3 := grown_within hG3 (fun g' e => by have : w2.heap.size = g' := (by injection e); omega)
                  have hb3 : Below w1.heap.size w1 w3 := hW3.below (below_al hb21 _) (by omega)
                  have HF3 := Lib.hid ((HOR.out.by ((Below.refl _ w2).alloc (Nat.le_refl _) (.cells #[.int .i64 x.kind, .slice ap x.pins.length cp, .int .i64 x.wd, .int .i64 x.len] 55))).past hW3 (by omega))
                  have hgr : w1.heap.size ≤ gr ∧ f < gr ∧ gr < w3.heap.size := by
                    have hlt := (HR3.out.lt gr rfl).2
                    rcases hg3 with e | e
                    · have : w2.heap.size = gr := by injection e
                      omega
                    · simp at e; omega
                  clear hG3 hg3 hW3
                  have HO3 := Lib.hid (HO1.out.by hb3)
                  have hb3w := below_on hb3 hb1w
                  have hsz3 := hb3.size
                  clear hb21 HO2 hsz21 HOR d1 d2 d3 d4 hbl
                  have HZ4 := Lib.hid (row_lit (lo := w.heap.size) (n := 0) (L := []) (Blk.new (w := w3) (T := 55) w3.heap.size rfl) rfl (by omega) (by omega))
                  have HRA := Lib.hid (HR3.out.kept (World.grownBy_alloc w3 (.cells #[] 55) none) (.inr (by simp [Value.ownBlock])))
                  go_wp2_with (first | (refine list_appT (by rfl) _ _ (by rfl) w.heap.size _ 0 [] (by rfl) HZ4.out ⟨g, 0, none⟩ q cv (tcells (L.take q)) (by rfl) (by rw [length_tcells, List.length_take, HLL.out]; omega) (row_news0 (by have := (HO3.out.by ((Below.refl _ w3).alloc (Nat.le_refl _) (.cells #[] 55))).2.1; rw [HLL.out] at this; exact this) q) (tcells_one (fun t ht => HO3.out.one t (List.mem_of_mem_take ht))) (by omega) (by omega) (by simp; omega) ?_; intro g4 c4 w4 hR4 hG4 hg4; simp only [Nat.zero_add, List.nil_append] at hR4; have HR4 := Lib.hid hR4; have HG4 := Lib.hid hG4; have HG4' := Lib.hid hg4; have HRB := Lib.hid (HRA.out.kept hG4 (.inr (by simp [Value.ownBlock]; omega))); have hlo4 := hG4.size; (try simp only [World.size_alloc] at hlo4); clear hR4 hG4 hg4) | (refine list_appT (by rfl) _ _ (by rfl) w.heap.size _ q _ (by rfl) HR4.out ⟨gr, 0, none⟩ (1 + (k - q)) _ (tcells [(x, Value.slice ap x.pins.length cp, f)] ++ tcells (L.drop q)) (by rfl) (by rw [List.length_append, length_tcells, length_tcells, List.length_drop, HLL.out]; show 1 * 4 + _ = _; omega) (fun j u hu => HRB.out.cells rfl j u hu) (fun u hu => (List.mem_append.1 hu).elim (tcells_one (L := [(x, Value.slice ap x.pins.length cp, f)]) (fun t ht => by obtain rfl : t = _ := List.mem_singleton.1 ht; rfl) u) (tcells_one (fun t ht => HO3.out.one t (List.mem_of_mem_drop ht)) u)) (by omega) (by omega) (by omega) ?_; intro g5 c5 w5 hR5 hG5 hg5; have HR5 := Lib.hid hR5; clear hR5))
                  have hg4 : w3.heap.size ≤ g4 := by
                    rcases HG4'.out with e | e
                    · have : w3.heap.size = g4 := by injection e
                      omega
                    · simp at e; omega
                  have hW4 : Within w3.heap.size (w3.heap.size + 1) (w3.alloc (.cells #[] 55)) w4 := grown_within HG4.out (fun g' e => by have : w3.heap.size = g' := (by injection e); omega)
                  have hb4 : Below w3.heap.size w3 w4 := hW4.below (below_al (Below.refl _ w3) _) (Nat.le_refl _)
                  have hW5 : Within g4 (g4 + 1) w4 w5 := grown_within hG5 (fun g' e => by have : g4 = g' := (by injection e); omega)
                  have hb5 : Below w3.heap.size w3 w5 := hW5.below hb4 (by omega)
                  have hg5' : w3.heap.size ≤ g5 := by
                    rcases hg5 with e | e
                    · have : g4 = g5 := by injection e
                      omega
                    · omega
                  have en5 : (q + (1 + (k - q))) = k + 1 := by omega
                  have HR6 := HR5.out
                  rw [en5] at HR6
                  have hb5w := below_on hb5 hb3w
                  have hb51 := below_on hb5 hb3
                  have hfin := Out.insert (q := q) (f := f) (pv := .slice ap x.pins.length cp) (x := x) HO1.out HLL.out hb51 (by omega) (HF3.out.by hb5) (by omega) (by have := hb5.size; omega) (by omega) (by omega) (show w5.ownsRow w.heap.size 55 4 (.slice (some ⟨g5, 0, none⟩) (k + 1) c5) (k + 1) (tcells (L.take q) ++ (tcells [(x, Value.slice ap x.pins.length cp, f)] ++ tcells (L.drop q))) from by
                    simpa [tcells] using HR6)
                  have hasc := HA.out.insert (x, .slice ap x.pins.length cp, f) q (by rw [HLL.out]; omega) HL1.out HQ1.out
                  have hkc5 : k + 1 ≤ c5 := by
                    rcases HR6.2 with ⟨e, _⟩ | ⟨_, _, _, e, _, _, h, _⟩
                    · cases e
                    · have : c5 = _ := (by injection e); omega
                  have hpm : ((L.take q ++ ((x, Value.slice ap x.pins.length cp, f) :: L.drop q)).map (·.1)).Perm (ds.take (k + 1)) := by
                    rw [take_snoc_of ds k x HX.out]
                    refine ((insert_perm L (x, Value.slice ap x.pins.length cp, f) q).map _).trans ?_
                    rw [List.map_append]
                    exact HP.out.append_right _
                  have hlen : (L.take q ++ ((x, Value.slice ap x.pins.length cp, f) :: L.drop q)).length = k + 1 := by rw [(insert_perm L _ q).length_eq, List.length_append, HLL.out]; rfl
                  (try rw [en5])
                  exact ⟨⟨k + 1, g5, c5, _, by omega, hkc5, by go_num, by first | rfl | (congr 1; omega), Lib.hid hlen, Lib.hid hfin, Lib.hid hasc, Lib.hid hpm, hb5w⟩, by simp [intOf]; omega⟩
        · obtain rfl : q = 0 := by omega
          have i4 : decide ((0 : Int) > 0) = false := by simp
          have HL1 := Lib.hid (show 0 = 0 ∨ ∀ y, L[0 - 1]? = some y → dlt x y.1 = false from .inl rfl)
          have HQ1 := HQ
          have hb2 : Below wr.heap.size wr wr.drew := below_of_drewN _ 1
          have hb1w := below_on hb2 hb
          have HO1 := Lib.hid (HO.out.by hb2)
          clear hb2 hq0
          go_wp2_with fail
          go_region
          all_goals go_wp2_with fail
          generalize wr.drew = w1 at *
          by_cases hkq : k = 0
          · subst hkq
            have d1 := cell_by' hb1w HE1.out
            have d2 := cell_by' hb1w HE2.out
            have d3 := cell_by' hb1w HE3.out
            have d4 := cell_by' hb1w HE4.out
            simp only [Nat.zero_mul, Nat.add_zero] at d1 d2 d3 d4
            have HSW := Lib.hid (HSX.out.by hb1w)
            have hbl := lt_of_cell d1
            dsimp only at hbl
            have hlo1 := hb1w.size
            go_region_law
              (first | (go_simp; go_at_call 105; refine (HOW.out _ (HSW.out.by (by ((repeat (first | (with_reducible exact Below.refl _ _) | (with_reducible refine below_drewN ?_ _) | (with_reducible refine Below.drew ?_) | (with_reducible refine below_al ?_ _) | (with_reducible refine below_on (by assumption) ?_) | ((with_reducible refine Below.setCell ?_ ?_ _); rotate_left; focus (first | omega | (simp; done) | (simp; omega))) | (with_reducible assumption))); done)))).mono ?_; rintro e w2 ⟨pv, rfl, hOI, hb2⟩; obtain ⟨f, hf1, hf2, hOR⟩ := hOI.pin HXN.out; have HOR := Lib.hid hOR; obtain ⟨ap, cp, rfl⟩ := hOR.sl.len; clear hOR hOI; have hf0 : w1.heap.size ≤ f := hf1; have hb21 : Below w1.heap.size w1 w2 := (by ((repeat (first | (with_reducible exact Below.refl _ _) | (with_reducible refine below_drewN ?_ _) | (with_reducible refine Below.drew ?_) | (with_reducible refine below_al ?_ _) | (with_reducible refine below_on (by assumption) ?_) | ((with_reducible refine Below.setCell ?_ ?_ _); rotate_left; focus (first | omega | (simp; done) | (simp; omega))) | (with_reducible assumption))); done)); have HO2 := Lib.hid (HO1.out.by hb21); have hsz21 := hb21.size; dsimp only) | (refine step_appZ (by rfl) _ _ (by rfl) _ 1 1 _ _ (by rfl) (by rfl) (Nat.le_refl _) ?_))
            all_goals
              have k3 : Blk (w2.alloc (.cells #[.int .i64 x.kind, .slice ap x.pins.length cp, .int .i64 x.wd, .int .i64 x.len] 55)) w2.heap.size #[.int .i64 x.kind, .slice ap x.pins.length cp, .int .i64 x.wd, .int .i64 x.len] 55 := Blk.new _ rfl
              have hb3 : Below w1.heap.size w1 (w2.alloc (.cells #[.int .i64 x.kind, .slice ap x.pins.length cp, .int .i64 x.wd, .int .i64 x.len] 55)) := below_al hb21 _
              have HR3 := Lib.hid (row_lit (lo := w.heap.size) (n := 1) (L := [(x, Value.slice ap x.pins.length cp, f)]) k3 rfl (by omega) (by omega))
              have HF3 := Lib.hid (HOR.out.by ((Below.refl _ w2).alloc (Nat.le_refl _) (.cells #[.int .i64 x.kind, .slice ap x.pins.length cp, .int .i64 x.wd, .int .i64 x.len] 55)))
              obtain ⟨gr, hgr0⟩ : ∃ gr, w2.heap.size = gr := ⟨_, rfl⟩
              obtain ⟨w3, hw3⟩ : ∃ w3, w2.alloc (.cells #[.int .i64 x.kind, .slice ap x.pins.length cp, .int .i64 x.wd, .int .i64 x.len] 55) = w3 := ⟨_, rfl⟩
              have hgr : w1.heap.size ≤ gr ∧ f < gr ∧ gr < w3.heap.size := by rw [← hw3]; simp; omega
              rw [hgr0] at HR3 ⊢
              rw [hw3] at hb3 HR3 HF3 ⊢
              clear hw3 hgr0 k3
              have HO3 := Lib.hid (HO1.out.by hb3)
              have hb3w := below_on hb3 hb1w
              have hsz3 := hb3.size
              clear hb21 HO2 hsz21 HOR d1 d2 d3 d4 hbl
              have HZ4 := Lib.hid (row_lit (lo := w.heap.size) (n := 0) (L := []) (Blk.new (w := w3) (T := 55) w3.heap.size rfl) rfl (by omega) (by omega))
              go_wp2_with (first | (refine list_appZ (by rfl) _ _ (by rfl) w3.heap.size 0 0 _ _ (by rfl) (by rfl) (Nat.le_refl _) ?_) | (refine list_appT (by rfl) _ _ (by rfl) w.heap.size _ 0 [] (by rfl) HZ4.out ⟨gr, 0, none⟩ 1 _ (tcells [(x, Value.slice ap x.pins.length cp, f)]) (by rfl) (by rw [length_tcells]; rfl) (fun j u hu => (HR3.out.kept (World.grownBy_alloc w3 _ none) (.inr (by simp [Value.ownBlock]))).cells rfl j u hu) (tcells_one (L := [(x, Value.slice ap x.pins.length cp, f)]) (fun t ht => by obtain rfl : t = _ := List.mem_singleton.1 ht; rfl)) (by omega) (by omega) (by simp; omega) ?_; intro g5 c5 w5 hR5 hG5 hg5; have HR5 := Lib.hid hR5; clear hR5))
              have hW5 : Within w3.heap.size (w3.heap.size + 1) (w3.alloc (.cells #[] 55)) w5 := grown_within hG5 (fun g' e => by have : w3.heap.size = g' := (by injection e); omega)
              have hb5 : Below w3.heap.size w3 w5 := hW5.below (below_al (Below.refl _ w3) _) (Nat.le_refl _)
              have hg5' : w3.heap.size ≤ g5 := by
                rcases hg5 with e | e
                · have : w3.heap.size = g5 := by injection e
                  omega
                · simp at e; omega
              have en5 : (0 + 1) = 0 + 1 := by omega
              have HR6 := HR5.out
              rw [en5] at HR6
              have hb5w := below_on hb5 hb3w
              have hb51 := below_on hb5 hb3
              have hfin := Out.insert (q := 0) (f := f) (pv := .slice ap x.pins.length cp) (x := x) HO1.out HLL.out hb51 (by omega) (HF3.out.by hb5) (by omega) (by have := hb5.size; omega) (by omega) (by omega) (show w5.ownsRow w.heap.size 55 4 (.slice (some ⟨g5, 0, none⟩) (0 + 1) c5) (0 + 1) (tcells (L.take 0) ++ (tcells [(x, Value.slice ap x.pins.length cp, f)] ++ tcells (L.drop 0))) from by
                have ed : L.drop 0 = [] := List.drop_eq_nil_of_le (by rw [HLL.out]; omega)
                rw [ed]
                simpa [tcells] using HR6)
              have hasc := HA.out.insert (x, .slice ap x.pins.length cp, f) 0 (by rw [HLL.out]; omega) (.inl rfl) HQ1.out
              have hkc5 : 0 + 1 ≤ c5 := by
                rcases HR6.2 with ⟨e, _⟩ | ⟨_, _, _, e, _, _, h, _⟩
                · cases e
                · have : c5 = _ := (by injection e); omega
              have hpm : ((L.take 0 ++ ((x, Value.slice ap x.pins.length cp, f) :: L.drop 0)).map (·.1)).Perm (ds.take (0 + 1)) := by
                rw [take_snoc_of ds 0 x HX.out]
                refine ((insert_perm L (x, Value.slice ap x.pins.length cp, f) 0).map _).trans ?_
                rw [List.map_append]
                exact HP.out.append_right _
              have hlen : (L.take 0 ++ ((x, Value.slice ap x.pins.length cp, f) :: L.drop 0)).length = 0 + 1 := by rw [(insert_perm L _ 0).length_eq, List.length_append, HLL.out]; rfl
              (try rw [en5])
              exact ⟨⟨0 + 1, g5, c5, _, by omega, hkc5, by go_num, by first | rfl | (congr 1; omega), Lib.hid hlen, Lib.hid hfin, Lib.hid hasc, Lib.hid hpm, hb5w⟩, by simp [intOf]; omega⟩
          · have hk1 : 0 < k := by omega
            have hcq : ¬ cv = 0 := by omega
            clear hkq
            have d1 := cell_by' hb1w HE1.out
            have d2 := cell_by' hb1w HE2.out
            have d3 := cell_by' hb1w HE3.out
            have d4 := cell_by' hb1w HE4.out
            have HSW := Lib.hid (HSX.out.by hb1w)
            have hbl := lt_of_cell d1
            dsimp only at hbl
            have hlo1 := hb1w.size
            go_region_law
              (first | (go_simp; go_at_call 105; refine (HOW.out _ (HSW.out.by (by ((repeat (first | (with_reducible exact Below.refl _ _) | (with_reducible refine below_drewN ?_ _) | (with_reducible refine Below.drew ?_) | (with_reducible refine below_al ?_ _) | (with_reducible refine below_on (by assumption) ?_) | ((with_reducible refine Below.setCell ?_ ?_ _); rotate_left; focus (first | omega | (simp; done) | (simp; omega))) | (with_reducible assumption))); done)))).mono ?_; rintro e w2 ⟨pv, rfl, hOI, hb2⟩; obtain ⟨f, hf1, hf2, hOR⟩ := hOI.pin HXN.out; have HOR := Lib.hid hOR; obtain ⟨ap, cp, rfl⟩ := hOR.sl.len; clear hOR hOI; have hf0 : w1.heap.size ≤ f := hf1; have hb21 : Below w1.heap.size w1 w2 := (by ((repeat (first | (with_reducible exact Below.refl _ _) | (with_reducible refine below_drewN ?_ _) | (with_reducible refine Below.drew ?_) | (with_reducible refine below_al ?_ _) | (with_reducible refine below_on (by assumption) ?_) | ((with_reducible refine Below.setCell ?_ ?_ _); rotate_left; focus (first | omega | (simp; done) | (simp; omega))) | (with_reducible assumption))); done)); have HO2 := Lib.hid (HO1.out.by hb21); have hsz21 := hb21.size; dsimp only) | (refine step_appT (by rfl) _ _ (by rfl) w.heap.size _ 1 (tcells [(x, Value.slice ap x.pins.length cp, f)]) (by rfl) (row_lit (n := 1) (L := [(x, Value.slice ap x.pins.length cp, f)]) (Blk.new _ rfl) rfl (by omega) (by omega)) ⟨g, 0 * 4, none⟩ (k - 0) (cv - 0) (tcells (L.drop 0)) (by rfl) (by rw [length_tcells, List.length_drop, HLL.out]) (row_news (by have := (HO2.out.by ((Below.refl _ w2).alloc (Nat.le_refl _) (.cells #[.int .i64 x.kind, .slice ap x.pins.length cp, .int .i64 x.wd, .int .i64 x.len] 55))).2.1; rw [HLL.out] at this; exact this) 0) (tcells_one (fun t ht => HO2.out.one t (List.mem_of_mem_drop ht))) (by omega) (by omega) (by simp; omega) ?_; intro gr cr w3 hR3 hG3 hg3; have HR3 := Lib.hid hR3; clear hR3))
            all_goals
              have hW3 : Within w2.heap.size (w2.heap.size + 1) (w2.alloc (.cells #[.int .i64 x.kind, .slice ap x.pins.length cp, .int .i64 x.wd, .int .i64 x.len] 55)) w3 := grown_within hG3 (fun g' e => by have : w2.heap.size = g' := (by injection e); omega)
              have hb3 : Below w1.heap.size w1 w3 := hW3.below (below_al hb21 _) (by omega)
              have HF3 := Lib.hid ((HOR.out.by ((Below.refl _ w2).alloc (Nat.le_refl _) (.cells #[.int .i64 x.kind, .slice ap x.pins.length cp, .int .i64 x.wd, .int .i64 x.len] 55))).past hW3 (by omega))
              have hgr : w1.heap.size ≤ gr ∧ f < gr ∧ gr < w3.heap.size := by
                have hlt := (HR3.out.lt gr rfl).2
                rcases hg3 with e | e
                · have : w2.heap.size = gr := by injection e
                  omega
                · simp at e; omega
              clear hG3 hg3 hW3
              have HO3 := Lib.hid (HO1.out.by hb3)
              have hb3w := below_on hb3 hb1w
              have hsz3 := hb3.size
              clear hb21 HO2 hsz21 HOR d1 d2 d3 d4 hbl
              have HZ4 := Lib.hid (row_lit (lo := w.heap.size) (n := 0) (L := []) (Blk.new (w := w3) (T := 55) w3.heap.size rfl) rfl (by omega) (by omega))
              go_wp2_with (first | (refine list_appZ (by rfl) _ _ (by rfl) w3.heap.size 0 0 _ _ (by rfl) (by rfl) (Nat.le_refl _) ?_) | (refine list_appT (by rfl) _ _ (by rfl) w.heap.size _ 0 [] (by rfl) HZ4.out ⟨gr, 0, none⟩ (1 + (k - 0)) _ (tcells [(x, Value.slice ap x.pins.length cp, f)] ++ tcells (L.drop 0)) (by rfl) (by rw [List.length_append, length_tcells, length_tcells, List.length_drop, HLL.out]; show 1 * 4 + _ = _; omega) (fun j u hu => (HR3.out.kept (World.grownBy_alloc w3 _ none) (.inr (by simp [Value.ownBlock]))).cells rfl j u hu) (fun u hu => (List.mem_append.1 hu).elim (tcells_one (L := [(x, Value.slice ap x.pins.length cp, f)]) (fun t ht => by obtain rfl : t = _ := List.mem_singleton.1 ht; rfl) u) (tcells_one (fun t ht => HO3.out.one t (List.mem_of_mem_drop ht)) u)) (by omega) (by omega) (by simp; omega) ?_; intro g5 c5 w5 hR5 hG5 hg5; have HR5 := Lib.hid hR5; clear hR5))
              have hW5 : Within w3.heap.size (w3.heap.size + 1) (w3.alloc (.cells #[] 55)) w5 := grown_within hG5 (fun g' e => by have : w3.heap.size = g' := (by injection e); omega)
              have hb5 : Below w3.heap.size w3 w5 := hW5.below (below_al (Below.refl _ w3) _) (Nat.le_refl _)
              have hg5' : w3.heap.size ≤ g5 := by
                rcases hg5 with e | e
                · have : w3.heap.size = g5 := by injection e
                  omega
                · simp at e; omega
              have en5 : (0 + (1 + (k - 0))) = k + 1 := by omega
              have HR6 := HR5.out
              rw [en5] at HR6
              have hb5w := below_on hb5 hb3w
              have hb51 := below_on hb5 hb3
              have hfin := Out.insert (q := 0) (f := f) (pv := .slice ap x.pins.length cp) (x := x) HO1.out HLL.out hb51 (by omega) (HF3.out.by hb5) (by omega) (by have := hb5.size; omega) (by omega) (by omega) (show w5.ownsRow w.heap.size 55 4 (.slice (some ⟨g5, 0, none⟩) (k + 1) c5) (k + 1) (tcells (L.take 0) ++ (tcells [(x, Value.slice ap x.pins.length cp, f)] ++ tcells (L.drop 0))) from by
                simpa [tcells] using HR6)
              have hasc := HA.out.insert (x, .slice ap x.pins.length cp, f) 0 (by rw [HLL.out]; omega) (.inl rfl) HQ1.out
              have hkc5 : k + 1 ≤ c5 := by
                rcases HR6.2 with ⟨e, _⟩ | ⟨_, _, _, e, _, _, h, _⟩
                · cases e
                · have : c5 = _ := (by injection e); omega
              have hpm : ((L.take 0 ++ ((x, Value.slice ap x.pins.length cp, f) :: L.drop 0)).map (·.1)).Perm (ds.take (k + 1)) := by
                rw [take_snoc_of ds k x HX.out]
                refine ((insert_perm L (x, Value.slice ap x.pins.length cp, f) 0).map _).trans ?_
                rw [List.map_append]
                exact HP.out.append_right _
              have hlen : (L.take 0 ++ ((x, Value.slice ap x.pins.length cp, f) :: L.drop 0)).length = k + 1 := by rw [(insert_perm L _ 0).length_eq, List.length_append, HLL.out]; rfl
              (try rw [en5])
              exact ⟨⟨k + 1, g5, c5, _, by omega, hkc5, by go_num, by first | rfl | (congr 1; omega), Lib.hid hlen, Lib.hid hfin, Lib.hid hasc, Lib.hid hpm, hb5w⟩, by simp [intOf]; omega⟩
    · obtain rfl : k = ds.length := by omega
      have e : L.map (·.1) = srtD ds := srtD_of (by have := HP.out; rwa [List.take_length] at this) (by have := HA.out; unfold Asc at this; rw [List.pairwise_map]; exact this)
      have hown := HO.out.own
      rw [e] at hown
      have i3 : ¬ (ds.length : Int) < (ds.length : Int) := by omega
      clear e
      go_wp2
      go_ret
      exact ⟨_, rfl, hown, hb⟩
end Go.Proofs.Ytpiiccfjkgimfaa
