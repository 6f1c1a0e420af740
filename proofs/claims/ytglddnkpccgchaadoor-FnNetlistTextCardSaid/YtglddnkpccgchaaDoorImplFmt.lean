/- FormatNetlist, the program's. -/
import Derived.Test.YtglddnkpccgchaaDoorStrK
import Derived.Test.YtglddnkpccgchaaDoorImplNl
import Derived.Test.YtglddnkpccgchaaDoorFmtS
import Derived.Test.YtglddnkpccgchaaDoorTakeL
import Derived.Deep.DeepCutAuto
namespace Go.Proofs.YtglddnkpccgchaaDoor
open Go.RowKit
set_option linter.unusedVariables false
set_option linter.unusedSimpArgs false

section
variable {P : Program} {ops : Array Oper} {Q : Exit → Act → World → Prop} {md : Region.Mode} {S : World → Prop} {l : Nat}
/-- Three may come up. -/
theorem wpAnyE_threeL {k k' k2 : Nat} {o o' o2 : Oper} {fuel : Nat} {listed : Array Bool} {a : Act} {w : World} (hr : Region.ready md ops listed = [k, k', k2]) (ho : ops.toList[k]? = some o) (ho' : ops.toList[k']? = some o') (ho2 : ops.toList[k2]? = some o2)
    (h : ∀ K' : Act → World → Prop, Shut (∀ a w, (k ≠ l → S w) → wpAnyE P md ops Q S l fuel (listed.setIfInBounds k true) a w → K' a w) → if Region.wanted o (yielded ops a.tmps) = true then Oper.wp P o a w K' Q else K' (a.put o.dst undef) w)
    (h' : ∀ K' : Act → World → Prop, Shut (∀ a w, (k' ≠ l → S w) → wpAnyE P md ops Q S l fuel (listed.setIfInBounds k' true) a w → K' a w) → if Region.wanted o' (yielded ops a.tmps) = true then Oper.wp P o' a w K' Q else K' (a.put o'.dst undef) w)
    (h2 : ∀ K' : Act → World → Prop, Shut (∀ a w, (k2 ≠ l → S w) → wpAnyE P md ops Q S l fuel (listed.setIfInBounds k2 true) a w → K' a w) → if Region.wanted o2 (yielded ops a.tmps) = true then Oper.wp P o2 a w K' Q else K' (a.put o2.dst undef) w) :
    wpAnyE P md ops Q S l (fuel + 1) listed a w := by
  refine ⟨fun h0 => (by rw [h0] at hr; cases hr), fun i hi => ?_⟩
  rw [hr] at hi
  have hik : i = k ∨ i = k' ∨ i = k2 := by simpa using hi
  rcases hik with rfl | rfl | rfl
  · exact wpOp_step (opsL ho) (fun K' hK => h K' (fun a w hS hW => hK a w ⟨hS, hW⟩))
  · exact wpOp_step (opsL ho') (fun K' hK => h' K' (fun a w hS hW => hK a w ⟨hS, hW⟩))
  · exact wpOp_step (opsL ho2) (fun K' hK => h2 K' (fun a w hS hW => hK a w ⟨hS, hW⟩))
end
theorem lines_take (x : Nl) (k : Nat) (p : Pt) (h : x.ps[k]? = some p) : (ln0 x.nets :: (x.ps.take k).map lnP) ++ [lnP p] = ln0 x.nets :: (x.ps.take (k + 1)).map lnP := by
  rw [List.take_add_one, h]; simp
theorem lines_takeD (L0 : List ByteArray) (ds : List Dv) (k : Nat) (d : Dv) (h : ds[k]? = some d) : (L0 ++ (ds.take k).map lnD) ++ [lnD d] = L0 ++ (ds.take (k + 1)).map lnD := by
  rw [List.take_add_one, h]; simp
theorem size_jn (ws : List ByteArray) (B n : Nat) (h : ∀ x ∈ ws, x.size ≤ B) (hn : ws.length ≤ n) : (jnB ws spB).size ≤ n * (1 + B) := by
  have := jn_bound ws spB B h
  rw [← size_data, jnB_data]
  rw [size_spB] at this
  exact Nat.le_trans this (Nat.mul_le_mul_right _ hn)
theorem size_ln (x : Nl) (h : nlB x = true) : ∀ l ∈ linesI x, l.size ≤ 10000100 := by
  obtain ⟨⟨n0, n1⟩, _, _, hdv, hpt⟩ := nlB_facts h
  intro l hl
  unfold linesI at hl
  rcases List.mem_cons.1 hl with rfl | hl
  · have := size_jn [wNets, numS x.nets.toNat] 100 2 (fun y hy => by
      simp at hy
      rcases hy with rfl | rfl
      · decide
      · have := size_numS x.nets.toNat; omega) (by simp)
    unfold ln0
    omega
  · rcases List.mem_append.1 hl with hl | hl
    · obtain ⟨p, hp, rfl⟩ := List.mem_map.1 hl
      have hn : p.name.size ≤ 8 ∧ 0 ≤ p.net ∧ p.net ≤ 24 := by
        obtain ⟨i, hi, e⟩ := List.getElem_of_mem hp
        have h1 := hpt i hi
        unfold ptOk at h1
        rw [List.getElem?_eq_getElem hi, e] at h1
        simp only [Bool.and_eq_true] at h1
        have h2 := inB_iff.1 h1.2.1
        refine ⟨?_, by omega, by omega⟩
        have h3 := h1.1
        unfold nameB at h3
        rw [Bool.and_eq_true, decide_eq_true_eq] at h3
        exact h3.2.2
      have := size_jn [wPort, p.name, numS p.net.toNat] 100 3 (fun y hy => by
        simp at hy
        rcases hy with rfl | rfl | rfl
        · decide
        · omega
        · have := size_numS p.net.toNat; omega) (by simp)
      unfold lnP
      omega
    · obtain ⟨d, hd, rfl⟩ := List.mem_map.1 hl
      have hm := hdv d hd
      have h1 := dvB_pins hm
      obtain ⟨_, _, g3, g4, _, _⟩ := dvB_all hm
      have g5 := inB_iff.1 g3
      have g6 := inB_iff.1 g4
      have := size_jn (kindS d.kind :: (d.pins ++ [d.wd, d.len]).map (fun z => numS z.toNat)) 1000001 6 (fun y hy => by
        rcases List.mem_cons.1 hy with rfl | hy
        · rw [size_kindS]; decide
        · obtain ⟨z, hz, rfl⟩ := List.mem_map.1 hy
          have hs := size_numS z.toNat
          have hz2 : z ≤ 1000000 := by
            rcases List.mem_append.1 hz with hz | hz
            · have := h1.2.2 z hz; omega
            · simp at hz
              rcases hz with rfl | rfl <;> omega
          omega) (by simp; omega)
      unfold lnD
      omega

set_option maxRecDepth 100000 in
set_option maxHeartbeats 8000000 in
theorem implFormat_any (x : Nl) (v : Value) (w : World) (hT : Tab10 w.heap.size w) (h : NlV w v x) (hok : ∀ p ∈ x.ps, p.ok) (hnn : Fits x.nets) :
    Calls Tryd.prog 9 #[v] w fun e w' => e = .returned (.string (fmtS x)) ∧ Below w.heap.size w w' := by
  have HV := Lib.hid (fun v w h => implNl_any x v w h hok hnn)
  have HN := Lib.hid h
  have HT := Lib.hid hT
  cases hv : nlB x with
  | false =>
    rw [fmtS_no hv]
    rw [hv] at HV
    obtain ⟨a, c, a', c', rfl⟩ := h.sized
    clear h hok hv hT
    go_enter Tryd.func9, Tryd.ntmps9
    go_wp2_with (go_at_call 18; refine (HV.out _ _ (HN.out.by (by ((repeat (first | (with_reducible exact Below.refl _ _) | (with_reducible refine below_drewN ?_ _) | (with_reducible refine Below.drew ?_) | (with_reducible refine below_al ?_ _) | (with_reducible refine below_on (by assumption) ?_) | ((with_reducible refine Below.setCell ?_ ?_ _); rotate_left; focus (first | omega | (simp; done) | (simp; omega))) | (with_reducible assumption))); done)))).mono ?_; rintro e w1 ⟨rfl, hb1⟩)
    go_ret
    exact ⟨rfl, (by ((repeat (first | (with_reducible exact Below.refl _ _) | (with_reducible refine below_drewN ?_ _) | (with_reducible refine Below.drew ?_) | (with_reducible refine below_al ?_ _) | (with_reducible refine below_on (by assumption) ?_) | ((with_reducible refine Below.setCell ?_ ?_ _); rotate_left; focus (first | omega | (simp; done) | (simp; omega))) | (with_reducible assumption))); done))⟩
  | true =>
    have HFM := Lib.hid (fmtI x hv)
    have HSL := Lib.hid (size_ln x hv)
    have HJ := Lib.hid (fun bk o c xs sep w h1 h2 h3 h4 h5 => Tryd.strings_Join bk o c xs sep w h1 h2 h3 h4 h5)
    rw [hv] at HV
    obtain ⟨⟨n0, n24⟩, hl24, hp8, hdv, hpt⟩ := nlB_facts hv
    have HDV := Lib.hid hdv
    have hpn : ∀ p ∈ x.ps, p.name.size ≤ 8 ∧ 0 ≤ p.net ∧ p.net ≤ 24 := fun p hp => by
      obtain ⟨i, hi, e⟩ := List.getElem_of_mem hp
      have h1 := hpt i hi
      unfold ptOk at h1
      rw [List.getElem?_eq_getElem hi, e] at h1
      simp only [Bool.and_eq_true] at h1
      have h2 := inB_iff.1 h1.2.1
      refine ⟨?_, by omega, by omega⟩
      have h3 := h1.1
      unfold nameB at h3
      rw [Bool.and_eq_true, decide_eq_true_eq] at h3
      exact h3.2.2
    have HPN := Lib.hid hpn
    obtain ⟨s1, s2, rfl, hd, hp⟩ := h
    have HD := Lib.hid hd
    have HP := Lib.hid hp
    obtain ⟨a1, c1, rfl⟩ := hd.sized
    obtain ⟨a2, c2, rfl⟩ := hp.sized
    have HL0 := Lib.hid (fun B W N w h1 h2 h3 h4 => line0_any B W N x.nets w h1 h2 h3 h4 ⟨n0, n24⟩)
    clear hd hp hok hv hdv hpt hpn hT
    go_enter Tryd.func9, Tryd.ntmps9
    go_wp2_with fail
    refine (HV.out _ _ (HN.out.by (by ((repeat (first | (with_reducible exact Below.refl _ _) | (with_reducible refine below_drewN ?_ _) | (with_reducible refine Below.drew ?_) | (with_reducible refine below_al ?_ _) | (with_reducible refine below_on (by assumption) ?_) | ((with_reducible refine Below.setCell ?_ ?_ _); rotate_left; focus (first | omega | (simp; done) | (simp; omega))) | (with_reducible assumption))); done)))).mono ?_
    rintro e w1 ⟨rfl, hb1⟩
    have k0 : Blk w1 w.heap.size #[.int .i64 x.nets, .slice a1 x.ds.length c1, .slice a2 x.ps.length c2] 31 := (by ((repeat (first | (with_reducible assumption) | (with_reducible refine Blk.drewN ?_ _) | (with_reducible refine Blk.drew ?_) | ((with_reducible refine Blk.new _ ?_); focus (first | omega | (simp; done) | (simp; omega))) | (with_reducible refine Blk.past ?_ _) | ((with_reducible refine Blk.apart ?_ _ _ _ ?_); rotate_left; focus (first | omega | (simp; done) | (simp; omega))) | (with_reducible refine Blk.by (by assumption) ?_))); done))
    have hb : Below w.heap.size w w1 := (by ((repeat (first | (with_reducible exact Below.refl _ _) | (with_reducible refine below_drewN ?_ _) | (with_reducible refine Below.drew ?_) | (with_reducible refine below_al ?_ _) | (with_reducible refine below_on (by assumption) ?_) | ((with_reducible refine Below.setCell ?_ ?_ _); rotate_left; focus (first | omega | (simp; done) | (simp; omega))) | (with_reducible assumption))); done))
    have c0 := k0.cell
    have l0 := k0.lt
    clear hb1 HV
    obtain ⟨w2, hw2⟩ : ∃ q, q = (w1.alloc (.cells #[.string ⟨#[110, 101, 116, 115]⟩] 9)).alloc (.cells #[.int .i64 x.nets] 2) := ⟨_, rfl⟩
    have kW : Blk w2 w1.heap.size #[.string ⟨#[110, 101, 116, 115]⟩] 9 := by rw [hw2]; exact (Blk.new _ rfl).past _
    have kN : Blk w2 (w1.heap.size + 1) #[.int .i64 x.nets] 2 := by rw [hw2]; exact Blk.new _ (by simp)
    have hb2 : Below w1.heap.size w1 w2 := by rw [hw2]; exact ((Below.refl _ w1).alloc (Nat.le_refl _) _).alloc (by simp) _
    have hW2 := Lib.hid hw2
    clear hw2
    have hsz1 := hb.size
    go_wp2_with fail
    rw [← hW2.out]
    refine (HL0.out w.heap.size w1.heap.size (w1.heap.size + 1) w2 (HT.out.on (below_on hb2 hb)) kW kN hsz1).mono ?_
    rintro e w3 ⟨rfl, hW3⟩
    have k3 := hW3.blk (Blk.by hb2 k0) (by omega)
    have hb3 : Below w.heap.size w w3 := hW3.below (below_on hb2 hb) hsz1
    clear kW kN c0 l0 hb2 hW2 hW3 k0 hb HL0
    have k4 : Blk (w3.alloc (.cells #[.string (ln0 x.nets)] 9)) w.heap.size #[.int .i64 x.nets, .slice a1 x.ds.length c1, .slice a2 x.ps.length c2] 31 := k3.past _
    have hb4 : Below w.heap.size w (w3.alloc (.cells #[.string (ln0 x.nets)] 9)) := below_al hb3 _
    have HS4 : Hid (SBld (w3.alloc (.cells #[.string (ln0 x.nets)] 9)) w3.heap.size 1 1 (ln0 x.nets :: (x.ps.take 0).map lnP)) := Lib.hid (SBld.lit (zs := [ln0 x.nets]) (Blk.new _ rfl) rfl (by simp))
    have hg3 : w.heap.size < w3.heap.size := by have := k3.lt; omega
    clear k3
    have c0 := k4.cell
    have l0 := k4.lt
    go_upto_region 5 with fail
    generalize w3.alloc (.cells #[.string (ln0 x.nets)] 9) = w4 at *
    obtain ⟨G3, hG3⟩ : ∃ G, w3.heap.size = G := ⟨_, rfl⟩
    rw [hG3] at HS4 hg3 ⊢
    have hz0 : Hid (Blk w4 w.heap.size #[.int .i64 x.nets, .slice a1 x.ds.length c1, .slice a2 x.ps.length c2] 31) := Lib.hid k4
    clear c0 l0 k4 hG3 hb3
    go_loopw [3, 5, 21] (fun v3 v5 vi wr => ∃ (k g c : Nat), k ≤ x.ps.length ∧ vi = .int .i64 (k : Int) ∧ v3 = .slice (some ⟨g, 0, none⟩) (k + 1) c ∧ Hid (SBld wr g (k + 1) c (ln0 x.nets :: (x.ps.take k).map lnP)) ∧ Hid (w.heap.size < g) ∧ Hid (Blk wr w.heap.size #[.int .i64 x.nets, .slice a1 x.ds.length c1, .slice a2 x.ps.length c2] 31) ∧ Hid (Below w.heap.size w wr)) (fun _ _ vi _ => x.ps.length - (intOf vi).toNat)
    case atStart => exact ⟨0, G3, 1, Nat.zero_le _, rfl, rfl, HS4, Lib.hid hg3, hz0, Lib.hid hb4⟩
    case round =>
      clear HS4 hg3 hz0 hb4
      obtain ⟨k, g, c, hk, rfl, rfl, HS, HG, HK, HB⟩ := hrel
      by_cases hlt : k < x.ps.length
      · as_aux_lemma =>
        obtain ⟨p, hp⟩ : ∃ p, x.ps[k]? = some p := ⟨_, List.getElem?_eq_getElem hlt⟩
        rcases HP.out with ⟨_, _, _, h0⟩ | ⟨b, off, cap, eg, hcap, hmax, hel⟩
        · rw [h0] at hlt; simp at hlt
        obtain ⟨rfl, rfl⟩ : a2 = some ⟨b, off, none⟩ ∧ c2 = cap := by simpa using eg
        obtain ⟨u1, u2⟩ := hel k p hp
        have p1 := cell_by' HB.out u1
        have p2 := cell_by' HB.out u2
        have HLT := Lib.hid (lines_take x k p hp)
        obtain ⟨q1, q2, q3⟩ := HPN.out p (List.mem_of_getElem? hp)
        have HLP := Lib.hid (fun B W N w h1 h2 h3 h4 => lineP_any B W N p w h1 h2 h3 h4 ⟨q2, q3⟩ q1)
        have i1 : (0 : Int) ≤ (k : Int) := by omega
        have i2 : (k : Int) < (x.ps.length : Int) := by omega
        have hbl := lt_of_cell p1
        dsimp only at hbl
        clear hel eg u1 u2 hp q1 q2 q3
        have HKL := Lib.hid hk
        have HLTT := Lib.hid hlt
        have hk8 : k + 1 ≤ 1000000 := by omega
        clear hk hlt
        go_upto_region 7 with fail
        obtain ⟨E, hE⟩ : ∃ E, wr.heap.size = E := ⟨_, rfl⟩
        obtain ⟨w5, hw5⟩ : ∃ q, q = wr.alloc (.cells #[.string p.name, .int .i64 p.net] 49) := ⟨_, rfl⟩
        have hal : Below wr.heap.size wr w5 := by rw [hw5]; exact (Below.refl _ wr).alloc (Nat.le_refl _) _
        have kE5 : Blk w5 E #[.string p.name, .int .i64 p.net] 49 := by rw [hw5]; exact Blk.new _ hE.symm
        have HS5 := Lib.hid (HS.out.by hal)
        have HK5 := Lib.hid (Blk.by hal HK.out)
        have hb5 := below_on hal HB.out
        have hE5 := HB.out.size
        rw [hE] at hE5
        have hs5 := hal.size
        rw [hE] at hs5
        have hEl := kE5.lt
        have hg5 := HS.out.2.2
        rw [hE] at hg5
        rw [← hw5]
        (try rw [hE])
        clear hw5 hal p1 p2 hbl HS HK HB hE
        have cE := kE5.cell
        have lE := kE5.lt
        obtain ⟨w6, hw6⟩ : ∃ q, q = (w5.alloc (.cells #[.string ⟨#[112, 111, 114, 116]⟩, .string p.name] 9)).alloc (.cells #[.int .i64 p.net] 2) := ⟨_, rfl⟩
        have kW : Blk w6 w5.heap.size #[.string ⟨#[112, 111, 114, 116]⟩, .string p.name] 9 := by rw [hw6]; exact (Blk.new _ rfl).past _
        have kN : Blk w6 (w5.heap.size + 1) #[.int .i64 p.net] 2 := by rw [hw6]; exact Blk.new _ (by simp)
        have hb6 : Below w5.heap.size w5 w6 := by rw [hw6]; exact ((Below.refl _ w5).alloc (Nat.le_refl _) _).alloc (by simp) _
        have hW6 := Lib.hid hw6
        clear hw6
        go_wp2_with fail
        rw [← hW6.out]
        refine (HLP.out w.heap.size w5.heap.size (w5.heap.size + 1) w6 (HT.out.on (below_on hb6 hb5)) kW kN (by omega)).mono ?_
        rintro e w7 ⟨rfl, hW7⟩
        have HS7 := Lib.hid ((HS5.out.by hb6).past hW7 (by omega))
        have HK7 := Lib.hid (hW7.blk (Blk.by hb6 HK5.out) (by omega))
        have hb7 : Below w.heap.size w w7 := hW7.below (below_on hb6 hb5) (by omega)
        have hs7 := hW7.size
        have hs6 := hb6.size
        clear kW kN cE lE hb6 hW6 hW7 kE5 hb5 HS5 HK5 HLP
        go_wp2_with (refine list_pushT (by rfl) _ _ (by rfl) g (k + 1) c (ln0 x.nets :: (x.ps.take k).map lnP) (by rfl) (HS7.out.by (by ((repeat (first | (with_reducible exact Below.refl _ _) | (with_reducible refine below_drewN ?_ _) | (with_reducible refine Below.drew ?_) | (with_reducible refine below_al ?_ _) | (with_reducible refine below_on (by assumption) ?_) | ((with_reducible refine Below.setCell ?_ ?_ _); rotate_left; focus (first | omega | (simp; done) | (simp; omega))) | (with_reducible assumption))); done))) w7.heap.size (lnP p) (by rfl) (Blk.new _ rfl) hk8 ?_; intro g2 c2' w8 hS8 hgr hg2)
        have hbz : Below w.heap.size w (w7.alloc (.cells #[.string (lnP p)] 9)) := below_al hb7 _
        refine ⟨⟨k + 1, g2, c2', HLTT.out, by have := HKL.out; go_num, rfl, Lib.hid (by rw [← HLT.out]; exact hS8), Lib.hid ?_, Lib.hid ?_, Lib.hid ?_⟩, by have := HLTT.out; simp [intOf]; omega⟩
        · have := HG.out
          simp only [World.size_alloc] at hg2
          omega
        · exact (hgr.block _ (by simp only [World.size_alloc]; omega) (fun e => by have := Option.some.inj e; have := HG.out; omega)).trans (HK7.out.past _)
        · exact hbz.grown hgr (by simp only [World.size_alloc]; omega) (fun q hq => by have := Option.some.inj hq; have := HG.out; omega)
      · obtain rfl : k = x.ps.length := by omega
        have i3 : ¬ (x.ps.length : Int) < (x.ps.length : Int) := by omega
        have hps : x.ps.take x.ps.length = x.ps := List.take_length
        have HS0 : Hid (SBld wr g (x.ps.length + 1) c ((ln0 x.nets :: x.ps.map lnP) ++ (x.ds.take 0).map lnD)) := Lib.hid (by have := HS.out; rw [hps] at this; simpa using this)
        have k4 := HK.out
        have c0 := k4.cell
        have l0 := k4.lt
        clear HS hps hk
        obtain ⟨wo, rfl⟩ : ∃ wo, wo = wr := ⟨_, rfl⟩
        go_upto_region 10 with fail
        clear c0 l0 k4
        go_loopw [3, 7, 8, 39] (fun v3 v7 v8 vi wr => ∃ (k g c n : Nat), k ≤ x.ds.length ∧ vi = .int .i64 (k : Int) ∧ v3 = .slice (some ⟨g, 0, none⟩) n c ∧ Hid (n = x.ps.length + 1 + k) ∧ Hid (SBld wr g n c ((ln0 x.nets :: x.ps.map lnP) ++ (x.ds.take k).map lnD)) ∧ Hid (w.heap.size < g) ∧ Hid (Below w.heap.size w wr)) (fun _ _ _ vi _ => x.ds.length - (intOf vi).toNat)
        case atStart => exact ⟨0, g, c, _, Nat.zero_le _, rfl, rfl, Lib.hid rfl, HS0, HG, HB⟩
        case round =>
          clear HS0 HG HB HK
          obtain ⟨k, g, c, n, hk, rfl, rfl, HNE, HS, HG, HB⟩ := hrel
          by_cases hlt : k < x.ds.length
          · as_aux_lemma =>
            obtain ⟨D, hD⟩ : ∃ D, x.ds[k]? = some D := ⟨_, List.getElem?_eq_getElem hlt⟩
            rcases HD.out with ⟨_, _, _, h0⟩ | ⟨b, off, cap, eg, hcap, hmax, hel⟩
            · rw [h0] at hlt; simp at hlt
            obtain ⟨rfl, rfl⟩ : a1 = some ⟨b, off, none⟩ ∧ c1 = cap := by simpa using eg
            obtain ⟨pv, u1, u2, u3, u4, hpv0⟩ := hel k D hD
            have p1 := cell_by' HB.out u1
            have p2 := cell_by' HB.out u2
            have p3 := cell_by' HB.out u3
            have p4 := cell_by' HB.out u4
            have hpv := hpv0.by HB.out
            obtain ⟨ap, cp, rfl⟩ := hpv.len
            have HPV := Lib.hid hpv
            have HLT := Lib.hid (lines_takeD (ln0 x.nets :: x.ps.map lnP) x.ds k D hD)
            have hm := HDV.out D (List.mem_of_getElem? hD)
            obtain ⟨g1, g2, g3, g4, g5, g6⟩ := dvB_all hm
            have hkb := inB_iff.1 g1
            have hkk : D.kind = 0 ∨ D.kind = 1 ∨ D.kind = 2 := by omega
            have hwb := inB_iff.1 g3
            have hlb := inB_iff.1 g4
            have hpb := dvB_pins hm
            have hpz : ∀ z ∈ D.pins, 0 ≤ z ∧ z ≤ 24 := fun z hz => by have := hpb.2.2 z hz; omega
            have HLD := Lib.hid (fun B W lo hi a c w h1 h2 h3 h4 => lineD_any B W lo hi (D.pins.length + 2) D a c w h1 h2 h3 h4 rfl hpb.1 hpz ⟨by omega, hwb.2⟩ ⟨by omega, hlb.2⟩)
            have HCL := Lib.hid (fun w h => cloneI_any (.slice ap D.pins.length cp) D.pins w h ⟨by omega, by omega⟩)
            obtain ⟨hp3, hp2⟩ : D.pins.length ≤ 3 ∧ 2 ≤ D.pins.length := ⟨hpb.1, hpb.2.1⟩
            have i1 : (0 : Int) ≤ (k : Int) := by omega
            have i2 : (k : Int) < (x.ds.length : Int) := by omega
            have hbl := lt_of_cell p1
            dsimp only at hbl
            have HKL := Lib.hid hk
            have HLTT := Lib.hid hlt
            have hk8 : k ≤ 24 := by omega
            have hn8 : n ≤ 1000000 := by have := HNE.out; omega
            clear hel eg u1 u2 u3 u4 hD hpv hpv0 hm hk hlt g1 g2 g3 g4 g5 g6 hkb hpb hpz hwb hlb
            go_upto_region 12 with fail
            obtain ⟨E, hE⟩ : ∃ E, wr.heap.size = E := ⟨_, rfl⟩
            obtain ⟨w7, hw7⟩ : ∃ q, q = wr.alloc (.cells #[.int .i64 D.kind, .slice ap D.pins.length cp, .int .i64 D.wd, .int .i64 D.len] 52) := ⟨_, rfl⟩
            have hal : Below wr.heap.size wr w7 := by rw [hw7]; exact (Below.refl _ wr).alloc (Nat.le_refl _) _
            have kE7 : Blk w7 E #[.int .i64 D.kind, .slice ap D.pins.length cp, .int .i64 D.wd, .int .i64 D.len] 52 := by rw [hw7]; exact Blk.new _ hE.symm
            have HPV7 := Lib.hid (HPV.out.by hal)
            have HS7 := Lib.hid (HS.out.by hal)
            have hb7 := below_on hal HB.out
            rw [← hw7]
            (try rw [hE])
            have hgE := HS.out.2.2
            rw [hE] at hgE
            have hE0 := HB.out.size
            rw [hE] at hE0
            clear hw7 hal p1 p2 p3 p4 hbl HPV HB HS hE
            go_cut [8] (fun vs wx => vs = .string (kindS D.kind) ∧ Hid (Below w7.heap.size w7 wx))
            case first => as_aux_lemma =>
              have hb0 : Below w7.heap.size w7 w7 := Below.refl _ _
              rcases hkk with hk3 | hk3 | hk3
              · have hks : kindS D.kind = ⟨#[110]⟩ := by rw [hk3]; rfl
                have HKS := Lib.hid hks
                rw [hk3] at kE7
                have cE := kE7.cell
                have lE := kE7.lt
                clear hks hk3
                go_wp2_with fail
                all_goals (try go_meet)
                exact ⟨by rw [HKS.out], Lib.hid (by ((repeat (first | (with_reducible exact Below.refl _ _) | (with_reducible refine below_drewN ?_ _) | (with_reducible refine Below.drew ?_) | (with_reducible refine below_al ?_ _) | (with_reducible refine below_on (by assumption) ?_) | ((with_reducible refine Below.setCell ?_ ?_ _); rotate_left; focus (first | omega | (simp; done) | (simp; omega))) | (with_reducible assumption))); done))⟩
              · have hks : kindS D.kind = ⟨#[112]⟩ := by rw [hk3]; rfl
                have HKS := Lib.hid hks
                rw [hk3] at kE7
                have cE := kE7.cell
                have lE := kE7.lt
                clear hks hk3
                go_wp2_with fail
                all_goals (try go_meet)
                exact ⟨by rw [HKS.out], Lib.hid (by ((repeat (first | (with_reducible exact Below.refl _ _) | (with_reducible refine below_drewN ?_ _) | (with_reducible refine Below.drew ?_) | (with_reducible refine below_al ?_ _) | (with_reducible refine below_on (by assumption) ?_) | ((with_reducible refine Below.setCell ?_ ?_ _); rotate_left; focus (first | omega | (simp; done) | (simp; omega))) | (with_reducible assumption))); done))⟩
              · have hks : kindS D.kind = ⟨#[114]⟩ := by rw [hk3]; rfl
                have HKS := Lib.hid hks
                rw [hk3] at kE7
                have cE := kE7.cell
                have lE := kE7.lt
                clear hks hk3
                go_wp2_with fail
                all_goals (try go_meet)
                exact ⟨by rw [HKS.out], Lib.hid (by ((repeat (first | (with_reducible exact Below.refl _ _) | (with_reducible refine below_drewN ?_ _) | (with_reducible refine Below.drew ?_) | (with_reducible refine below_al ?_ _) | (with_reducible refine below_on (by assumption) ?_) | ((with_reducible refine Below.setCell ?_ ?_ _); rotate_left; focus (first | omega | (simp; done) | (simp; omega))) | (with_reducible assumption))); done))⟩
            case rest => as_aux_lemma =>
              obtain ⟨rfl, HBC⟩ := hcut
              have kE := Blk.by HBC.out kE7
              have HPV8 := Lib.hid (HPV7.out.by HBC.out)
              have HS8 := Lib.hid (HS7.out.by HBC.out)
              have hb8 := below_on HBC.out hb7
              clear HPV7 HS7 HBC kE7 hb7 hkk
              generalize D.kind = DK at *
              go_upto_region 13 with fail
              have hS : (fun w' : World => Blk w' E #[.int .i64 DK, .slice ap D.pins.length cp, .int .i64 D.wd, .int .i64 D.len] 52) { wc with drawn := wc.drawn + 1 } := kE.drew
              refine wp_region_any (by kernel_rfl) (wpAny_of_E (S := (fun w' : World => Blk w' E #[.int .i64 DK, .slice ap D.pins.length cp, .int .i64 D.wd, .int .i64 D.len] 52)) (l := 15) _ _ _ _ ?_)
              change wpAnyE _ _ _ _ _ _ _ _ _ wc.drew
              refine wpAnyE_takeL (i := 0) (v := ?_) rfl (by kernel_rfl) (fun _ _ _ h => h) (Or.inl ⟨by rfl, ?_⟩) hS ?_
              rotate_left
              · intro w hSw; (try dsimp only at hSw); have qA := hSw.cell; have lA := hSw.lt; clear hSw; go_simp; (try with_reducible rfl)
              try simp only [Act.put, List.setIfInBounds_toArray, List.set_cons_zero, List.set_cons_succ]
              refine wpAnyE_takeL (i := 1) (v := ?_) rfl (by kernel_rfl) (fun _ _ _ h => h) (Or.inl ⟨by rfl, ?_⟩) hS ?_
              rotate_left
              · intro w hSw; (try dsimp only at hSw); have qA := hSw.cell; have lA := hSw.lt; clear hSw; go_simp; (try with_reducible rfl)
              try simp only [Act.put, List.setIfInBounds_toArray, List.set_cons_zero, List.set_cons_succ]
              refine wpAnyE_takeL (i := 3) (v := ?_) rfl (by kernel_rfl) (fun _ _ _ h => h) (Or.inl ⟨by rfl, ?_⟩) hS ?_
              rotate_left
              · intro w hSw; (try dsimp only at hSw); have qA := hSw.cell; have lA := hSw.lt; clear hSw; go_simp; (try with_reducible rfl)
              try simp only [Act.put, List.setIfInBounds_toArray, List.set_cons_zero, List.set_cons_succ]
              refine wpAnyE_takeL (i := 4) (v := ?_) rfl (by kernel_rfl) (fun _ _ _ h => h) (Or.inl ⟨by rfl, ?_⟩) hS ?_
              rotate_left
              · intro w hSw; (try dsimp only at hSw); have qA := hSw.cell; have lA := hSw.lt; clear hSw; go_simp; (try with_reducible rfl)
              try simp only [Act.put, List.setIfInBounds_toArray, List.set_cons_zero, List.set_cons_succ]
              refine wpAnyE_takeL (i := 6) (v := ?_) rfl (by kernel_rfl) (fun _ _ _ h => h) (Or.inl ⟨by rfl, ?_⟩) hS ?_
              rotate_left
              · intro w hSw; (try dsimp only at hSw); have qA := hSw.cell; have lA := hSw.lt; clear hSw; go_simp; (try with_reducible rfl)
              try simp only [Act.put, List.setIfInBounds_toArray, List.set_cons_zero, List.set_cons_succ]
              refine wpAnyE_takeL (i := 7) (v := ?_) rfl (by kernel_rfl) (fun _ _ _ h => h) (Or.inl ⟨by rfl, ?_⟩) hS ?_
              rotate_left
              · intro w hSw; (try dsimp only at hSw); have qA := hSw.cell; have lA := hSw.lt; clear hSw; go_simp; (try with_reducible rfl)
              try simp only [Act.put, List.setIfInBounds_toArray, List.set_cons_zero, List.set_cons_succ]
              refine wpAnyE_takeL (i := 8) (v := ?_) rfl (by kernel_rfl) (fun _ _ _ h => h) (Or.inl ⟨by rfl, ?_⟩) hS ?_
              rotate_left
              · intro w hSw; (try dsimp only at hSw); have qA := hSw.cell; have lA := hSw.lt; clear hSw; go_simp; (try with_reducible rfl)
              try simp only [Act.put, List.setIfInBounds_toArray, List.set_cons_zero, List.set_cons_succ]
              refine wpAnyE_takeL (i := 9) (v := ?_) rfl (by kernel_rfl) (fun _ _ _ h => h) (Or.inl ⟨by rfl, ?_⟩) hS ?_
              rotate_left
              · intro w hSw; (try dsimp only at hSw); have qA := hSw.cell; have lA := hSw.lt; clear hSw; go_simp; (try with_reducible rfl)
              try simp only [Act.put, List.setIfInBounds_toArray, List.set_cons_zero, List.set_cons_succ]
              obtain ⟨y0, hy0⟩ : ∃ q, q = wc.drew := ⟨_, rfl⟩
              have kEc : Blk y0 E #[.int .i64 DK, .slice ap D.pins.length cp, .int .i64 D.wd, .int .i64 D.len] 52 := by rw [hy0]; exact kE.drew
              have hbc : Below wc.heap.size wc y0 := by rw [hy0]; exact (Below.refl _ wc).drew
              have hEx := kE.lt
              have hs8 := hb8.size
              rw [← hy0]
              clear hy0 kE
              refine wpAnyE_threeL (k := 2) (k' := 5) (k2 := 10) (by kernel_rfl) rfl rfl rfl (fun K hK => ?_) (fun K hK => ?_) (fun K hK => ?_)
              · go_simp
                have hal : Below y0.heap.size y0 (y0.alloc (.cells #[.string (kindS DK)] 9)) := (Below.refl _ y0).alloc (Nat.le_refl _) _
                have hz_WB : wc.heap.size ≤ y0.heap.size := hbc.size
                replace kEc := Blk.by hal kEc
                replace hbc := below_on hal hbc
                have kWc : Blk (y0.alloc (.cells #[.string (kindS DK)] 9)) y0.heap.size #[.string (kindS DK)] 9 := Blk.new _ rfl
                refine hK.out _ _ (fun _ => kEc) ?_
                try simp only [Act.put, List.setIfInBounds_toArray, List.set_cons_zero, List.set_cons_succ]
                clear hal hK
                generalize y0.alloc (.cells #[.string (kindS DK)] 9) = y1 at *
                generalize y0.heap.size = WB at *
                refine wpAnyE_twoL (k := 5) (k' := 10) (by kernel_rfl) rfl rfl (fun K hK => ?_) (fun K hK => ?_)
                · go_simp
                  go_at_call 27
                  refine (HCL.out y1 (HPV8.out.by hbc)).mono ?_
                  rintro e y2 ⟨vc, rfl, hBC, hbq⟩
                  obtain ⟨ac, cc, rfl⟩ := hBC.sized
                  have hWlo : WB < y1.heap.size := kWc.lt
                  have hlo : wc.heap.size ≤ y1.heap.size := hbc.size
                  replace kEc := Blk.by hbq kEc
                  replace kWc := Blk.by hbq kWc
                  replace hbc := below_on hbq hbc
                  obtain ⟨lo, hi, hlo2, HCc⟩ : ∃ lo hi, lo = y1.heap.size ∧ Hid (BldI y2 lo hi (.slice ac D.pins.length cc) D.pins) := ⟨_, _, rfl, Lib.hid hBC⟩
                  rw [← hlo2] at hlo hWlo
                  refine hK.out _ _ (fun _ => kEc) ?_
                  try simp only [Act.put, List.setIfInBounds_toArray, List.set_cons_zero, List.set_cons_succ]
                  clear hbq hBC hlo2 hK
                  refine wpAnyE_oneL (k := 10) (by kernel_rfl) rfl (fun K hK => ?_)
                  go_simp
                  have hal : Below y2.heap.size y2 (y2.alloc (.cells #[.int .i64 D.wd, .int .i64 D.len] 2)) := (Below.refl _ y2).alloc (Nat.le_refl _) _
                  have hz_NB : wc.heap.size ≤ y2.heap.size := hbc.size
                  have hh_NB : hi ≤ y2.heap.size := HCc.out.1
                  replace kEc := Blk.by hal kEc
                  replace kWc := Blk.by hal kWc
                  replace HCc := Lib.hid (HCc.out.by hal)
                  replace hbc := below_on hal hbc
                  have kNc : Blk (y2.alloc (.cells #[.int .i64 D.wd, .int .i64 D.len] 2)) y2.heap.size #[.int .i64 D.wd, .int .i64 D.len] 2 := Blk.new _ rfl
                  refine hK.out _ _ (fun _ => kEc) ?_
                  try simp only [Act.put, List.setIfInBounds_toArray, List.set_cons_zero, List.set_cons_succ]
                  clear hal hK
                  generalize y2.alloc (.cells #[.int .i64 D.wd, .int .i64 D.len] 2) = y3 at *
                  generalize y2.heap.size = NB at *
                  refine wpAnyE_oneL (k := 11) (by kernel_rfl) rfl (fun K hK => ?_)
                  have hlohi : lo ≤ hi := by have := HCc.out.own; rcases this with ⟨_, _, _, h0⟩ | ⟨_, _, _, _, e1, e2, _⟩; rw [h0] at hp2; simp at hp2; omega
                  refine step_pushI (by rfl) _ _ (by rfl) lo hi (.slice ac D.pins.length cc) D.pins [D.wd, D.len] (by rfl) HCc.out NB 2 #[.int .i64 D.wd, .int .i64 D.len] (by rfl) rfl (by omega) kNc rfl hlohi (by omega) ?_
                  intro aa ca y4 hBA hWA
                  replace kWc := hWA.blk kWc (by omega)
                  replace kEc := hWA.blk kEc (by omega)
                  replace hbc : Below wc.heap.size wc y4 := hWA.below hbc hlo
                  obtain ⟨hiA, HAc⟩ : ∃ q, Hid (BldI y4 lo q (.slice aa (D.pins.length + 2) ca) (D.pins ++ [D.wd, D.len])) := ⟨_, Lib.hid hBA⟩
                  refine hK.out _ _ (fun _ => kEc) ?_
                  try simp only [Act.put, List.setIfInBounds_toArray, List.set_cons_zero, List.set_cons_succ]
                  clear hBA hWA HCc kNc hK
                  refine wpAnyE_oneL (k := 12) (by kernel_rfl) rfl (fun K hK => ?_)
                  go_simp
                  go_at_call 26
                  refine (HLD.out w.heap.size WB lo hiA aa ca y4 (HT.out.on (below_on hbc hb8)) kWc HAc.out (by omega)).mono ?_
                  rintro e y5 ⟨rfl, hWj⟩
                  replace kEc := hWj.blk kEc (by omega)
                  replace hbc : Below wc.heap.size wc y5 := hWj.below hbc (by omega)
                  refine hK.out _ _ (fun _ => kEc) ?_
                  try simp only [Act.put, List.setIfInBounds_toArray, List.set_cons_zero, List.set_cons_succ]
                  clear hWj hK kWc HAc
                  refine wpAnyE_oneL (k := 13) (by kernel_rfl) rfl (fun K hK => ?_)
                  go_simp
                  have hal : Below y5.heap.size y5 (y5.alloc (.cells #[.string (lnD D)] 9)) := (Below.refl _ y5).alloc (Nat.le_refl _) _
                  have hz_LB : wc.heap.size ≤ y5.heap.size := hbc.size
                  replace kEc := Blk.by hal kEc
                  replace hbc := below_on hal hbc
                  have kLc : Blk (y5.alloc (.cells #[.string (lnD D)] 9)) y5.heap.size #[.string (lnD D)] 9 := Blk.new _ rfl
                  refine hK.out _ _ (fun _ => kEc) ?_
                  try simp only [Act.put, List.setIfInBounds_toArray, List.set_cons_zero, List.set_cons_succ]
                  clear hal hK
                  generalize y5.alloc (.cells #[.string (lnD D)] 9) = y6 at *
                  generalize y5.heap.size = LB at *
                  refine wpAnyE_oneL (k := 14) (by kernel_rfl) rfl (fun K hK => ?_)
                  refine step_pushT (by rfl) _ _ (by rfl) g n c _ (by rfl) (HS8.out.by hbc) LB (lnD D) (by rfl) kLc hn8 ?_
                  intro g2 c2' y7 hS9 hgr hg2
                  replace kEc : Blk y7 E #[.int .i64 DK, .slice ap D.pins.length cp, .int .i64 D.wd, .int .i64 D.len] 52 := (hgr.block _ kEc.lt (fun e => by have := Option.some.inj e; omega)).trans kEc
                  have hsy := hbc.size
                  have hbw : Below w.heap.size w y7 := (below_on hbc hb8).grown hgr (by omega) (fun q hq => by have := Option.some.inj hq; have := HG.out; omega)
                  refine hK.out _ _ (fun _ => kEc) ?_
                  try simp only [Act.put, List.setIfInBounds_toArray, List.set_cons_zero, List.set_cons_succ]
                  clear hK
                  refine wpAnyE_oneL (k := 15) (by kernel_rfl) rfl (fun K hK => ?_)
                  go_simp
                  refine hK.out _ _ (fun h => absurd rfl h) ?_
                  refine wpAnyE_done (by kernel_rfl) ?_ _
                  clear hS
                  go_wp2
                  refine ⟨⟨k + 1, g2, c2', n + 1, HLTT.out, by go_num, rfl, Lib.hid (by have := HNE.out; omega), Lib.hid (by rw [← HLT.out]; exact hS9), Lib.hid ?_, Lib.hid hbw⟩, by have := HLTT.out; simp [intOf]; omega⟩
                  have := HG.out
                  omega
                · go_simp
                  have hal : Below y1.heap.size y1 (y1.alloc (.cells #[.int .i64 D.wd, .int .i64 D.len] 2)) := (Below.refl _ y1).alloc (Nat.le_refl _) _
                  have hz_NB : wc.heap.size ≤ y1.heap.size := hbc.size
                  replace kEc := Blk.by hal kEc
                  replace kWc := Blk.by hal kWc
                  replace hbc := below_on hal hbc
                  have kNc : Blk (y1.alloc (.cells #[.int .i64 D.wd, .int .i64 D.len] 2)) y1.heap.size #[.int .i64 D.wd, .int .i64 D.len] 2 := Blk.new _ rfl
                  refine hK.out _ _ (fun _ => kEc) ?_
                  try simp only [Act.put, List.setIfInBounds_toArray, List.set_cons_zero, List.set_cons_succ]
                  clear hal hK
                  generalize y1.alloc (.cells #[.int .i64 D.wd, .int .i64 D.len] 2) = y10 at *
                  generalize y1.heap.size = NB at *
                  refine wpAnyE_oneL (k := 5) (by kernel_rfl) rfl (fun K hK => ?_)
                  go_simp
                  go_at_call 27
                  refine (HCL.out y10 (HPV8.out.by hbc)).mono ?_
                  rintro e y11 ⟨vc, rfl, hBC, hbq⟩
                  obtain ⟨ac, cc, rfl⟩ := hBC.sized
                  have hWlo : WB < y10.heap.size := kWc.lt
                  have hlo : wc.heap.size ≤ y10.heap.size := hbc.size
                  replace kEc := Blk.by hbq kEc
                  replace kWc := Blk.by hbq kWc
                  replace kNc := Blk.by hbq kNc
                  replace hbc := below_on hbq hbc
                  obtain ⟨lo, hi, hlo2, HCc⟩ : ∃ lo hi, lo = y10.heap.size ∧ Hid (BldI y11 lo hi (.slice ac D.pins.length cc) D.pins) := ⟨_, _, rfl, Lib.hid hBC⟩
                  rw [← hlo2] at hlo hWlo
                  refine hK.out _ _ (fun _ => kEc) ?_
                  try simp only [Act.put, List.setIfInBounds_toArray, List.set_cons_zero, List.set_cons_succ]
                  clear hbq hBC hlo2 hK
                  refine wpAnyE_oneL (k := 11) (by kernel_rfl) rfl (fun K hK => ?_)
                  have hlohi : lo ≤ hi := by have := HCc.out.own; rcases this with ⟨_, _, _, h0⟩ | ⟨_, _, _, _, e1, e2, _⟩; rw [h0] at hp2; simp at hp2; omega
                  refine step_pushI (by rfl) _ _ (by rfl) lo hi (.slice ac D.pins.length cc) D.pins [D.wd, D.len] (by rfl) HCc.out NB 2 #[.int .i64 D.wd, .int .i64 D.len] (by rfl) rfl (by omega) kNc rfl hlohi (by omega) ?_
                  intro aa ca y12 hBA hWA
                  replace kWc := hWA.blk kWc (by omega)
                  replace kEc := hWA.blk kEc (by omega)
                  replace hbc : Below wc.heap.size wc y12 := hWA.below hbc hlo
                  obtain ⟨hiA, HAc⟩ : ∃ q, Hid (BldI y12 lo q (.slice aa (D.pins.length + 2) ca) (D.pins ++ [D.wd, D.len])) := ⟨_, Lib.hid hBA⟩
                  refine hK.out _ _ (fun _ => kEc) ?_
                  try simp only [Act.put, List.setIfInBounds_toArray, List.set_cons_zero, List.set_cons_succ]
                  clear hBA hWA HCc kNc hK
                  refine wpAnyE_oneL (k := 12) (by kernel_rfl) rfl (fun K hK => ?_)
                  go_simp
                  go_at_call 26
                  refine (HLD.out w.heap.size WB lo hiA aa ca y12 (HT.out.on (below_on hbc hb8)) kWc HAc.out (by omega)).mono ?_
                  rintro e y13 ⟨rfl, hWj⟩
                  replace kEc := hWj.blk kEc (by omega)
                  replace hbc : Below wc.heap.size wc y13 := hWj.below hbc (by omega)
                  refine hK.out _ _ (fun _ => kEc) ?_
                  try simp only [Act.put, List.setIfInBounds_toArray, List.set_cons_zero, List.set_cons_succ]
                  clear hWj hK kWc HAc
                  refine wpAnyE_oneL (k := 13) (by kernel_rfl) rfl (fun K hK => ?_)
                  go_simp
                  have hal : Below y13.heap.size y13 (y13.alloc (.cells #[.string (lnD D)] 9)) := (Below.refl _ y13).alloc (Nat.le_refl _) _
                  have hz_LB : wc.heap.size ≤ y13.heap.size := hbc.size
                  replace kEc := Blk.by hal kEc
                  replace hbc := below_on hal hbc
                  have kLc : Blk (y13.alloc (.cells #[.string (lnD D)] 9)) y13.heap.size #[.string (lnD D)] 9 := Blk.new _ rfl
                  refine hK.out _ _ (fun _ => kEc) ?_
                  try simp only [Act.put, List.setIfInBounds_toArray, List.set_cons_zero, List.set_cons_succ]
                  clear hal hK
                  generalize y13.alloc (.cells #[.string (lnD D)] 9) = y14 at *
                  generalize y13.heap.size = LB at *
                  refine wpAnyE_oneL (k := 14) (by kernel_rfl) rfl (fun K hK => ?_)
                  refine step_pushT (by rfl) _ _ (by rfl) g n c _ (by rfl) (HS8.out.by hbc) LB (lnD D) (by rfl) kLc hn8 ?_
                  intro g2 c2' y15 hS9 hgr hg2
                  replace kEc : Blk y15 E #[.int .i64 DK, .slice ap D.pins.length cp, .int .i64 D.wd, .int .i64 D.len] 52 := (hgr.block _ kEc.lt (fun e => by have := Option.some.inj e; omega)).trans kEc
                  have hsy := hbc.size
                  have hbw : Below w.heap.size w y15 := (below_on hbc hb8).grown hgr (by omega) (fun q hq => by have := Option.some.inj hq; have := HG.out; omega)
                  refine hK.out _ _ (fun _ => kEc) ?_
                  try simp only [Act.put, List.setIfInBounds_toArray, List.set_cons_zero, List.set_cons_succ]
                  clear hK
                  refine wpAnyE_oneL (k := 15) (by kernel_rfl) rfl (fun K hK => ?_)
                  go_simp
                  refine hK.out _ _ (fun h => absurd rfl h) ?_
                  refine wpAnyE_done (by kernel_rfl) ?_ _
                  clear hS
                  go_wp2
                  refine ⟨⟨k + 1, g2, c2', n + 1, HLTT.out, by go_num, rfl, Lib.hid (by have := HNE.out; omega), Lib.hid (by rw [← HLT.out]; exact hS9), Lib.hid ?_, Lib.hid hbw⟩, by have := HLTT.out; simp [intOf]; omega⟩
                  have := HG.out
                  omega
              · go_simp
                go_at_call 27
                refine (HCL.out y0 (HPV8.out.by hbc)).mono ?_
                rintro e y18 ⟨vc, rfl, hBC, hbq⟩
                obtain ⟨ac, cc, rfl⟩ := hBC.sized
                have hlo : wc.heap.size ≤ y0.heap.size := hbc.size
                replace kEc := Blk.by hbq kEc
                replace hbc := below_on hbq hbc
                obtain ⟨lo, hi, hlo2, HCc⟩ : ∃ lo hi, lo = y0.heap.size ∧ Hid (BldI y18 lo hi (.slice ac D.pins.length cc) D.pins) := ⟨_, _, rfl, Lib.hid hBC⟩
                rw [← hlo2] at hlo
                refine hK.out _ _ (fun _ => kEc) ?_
                try simp only [Act.put, List.setIfInBounds_toArray, List.set_cons_zero, List.set_cons_succ]
                clear hbq hBC hlo2 hK
                refine wpAnyE_twoL (k := 2) (k' := 10) (by kernel_rfl) rfl rfl (fun K hK => ?_) (fun K hK => ?_)
                · go_simp
                  have hal : Below y18.heap.size y18 (y18.alloc (.cells #[.string (kindS DK)] 9)) := (Below.refl _ y18).alloc (Nat.le_refl _) _
                  have hz_WB : wc.heap.size ≤ y18.heap.size := hbc.size
                  have hh_WB : hi ≤ y18.heap.size := HCc.out.1
                  replace kEc := Blk.by hal kEc
                  replace HCc := Lib.hid (HCc.out.by hal)
                  replace hbc := below_on hal hbc
                  have kWc : Blk (y18.alloc (.cells #[.string (kindS DK)] 9)) y18.heap.size #[.string (kindS DK)] 9 := Blk.new _ rfl
                  refine hK.out _ _ (fun _ => kEc) ?_
                  try simp only [Act.put, List.setIfInBounds_toArray, List.set_cons_zero, List.set_cons_succ]
                  clear hal hK
                  generalize y18.alloc (.cells #[.string (kindS DK)] 9) = y19 at *
                  generalize y18.heap.size = WB at *
                  refine wpAnyE_oneL (k := 10) (by kernel_rfl) rfl (fun K hK => ?_)
                  go_simp
                  have hal : Below y19.heap.size y19 (y19.alloc (.cells #[.int .i64 D.wd, .int .i64 D.len] 2)) := (Below.refl _ y19).alloc (Nat.le_refl _) _
                  have hz_NB : wc.heap.size ≤ y19.heap.size := hbc.size
                  have hh_NB : hi ≤ y19.heap.size := HCc.out.1
                  replace kEc := Blk.by hal kEc
                  replace kWc := Blk.by hal kWc
                  replace HCc := Lib.hid (HCc.out.by hal)
                  replace hbc := below_on hal hbc
                  have kNc : Blk (y19.alloc (.cells #[.int .i64 D.wd, .int .i64 D.len] 2)) y19.heap.size #[.int .i64 D.wd, .int .i64 D.len] 2 := Blk.new _ rfl
                  refine hK.out _ _ (fun _ => kEc) ?_
                  try simp only [Act.put, List.setIfInBounds_toArray, List.set_cons_zero, List.set_cons_succ]
                  clear hal hK
                  generalize y19.alloc (.cells #[.int .i64 D.wd, .int .i64 D.len] 2) = y20 at *
                  generalize y19.heap.size = NB at *
                  refine wpAnyE_oneL (k := 11) (by kernel_rfl) rfl (fun K hK => ?_)
                  have hlohi : lo ≤ hi := by have := HCc.out.own; rcases this with ⟨_, _, _, h0⟩ | ⟨_, _, _, _, e1, e2, _⟩; rw [h0] at hp2; simp at hp2; omega
                  refine step_pushI (by rfl) _ _ (by rfl) lo hi (.slice ac D.pins.length cc) D.pins [D.wd, D.len] (by rfl) HCc.out NB 2 #[.int .i64 D.wd, .int .i64 D.len] (by rfl) rfl (by omega) kNc rfl hlohi (by omega) ?_
                  intro aa ca y21 hBA hWA
                  replace kWc := hWA.blk kWc (by omega)
                  replace kEc := hWA.blk kEc (by omega)
                  replace hbc : Below wc.heap.size wc y21 := hWA.below hbc hlo
                  obtain ⟨hiA, HAc⟩ : ∃ q, Hid (BldI y21 lo q (.slice aa (D.pins.length + 2) ca) (D.pins ++ [D.wd, D.len])) := ⟨_, Lib.hid hBA⟩
                  refine hK.out _ _ (fun _ => kEc) ?_
                  try simp only [Act.put, List.setIfInBounds_toArray, List.set_cons_zero, List.set_cons_succ]
                  clear hBA hWA HCc kNc hK
                  refine wpAnyE_oneL (k := 12) (by kernel_rfl) rfl (fun K hK => ?_)
                  go_simp
                  go_at_call 26
                  refine (HLD.out w.heap.size WB lo hiA aa ca y21 (HT.out.on (below_on hbc hb8)) kWc HAc.out (by omega)).mono ?_
                  rintro e y22 ⟨rfl, hWj⟩
                  replace kEc := hWj.blk kEc (by omega)
                  replace hbc : Below wc.heap.size wc y22 := hWj.below hbc (by omega)
                  refine hK.out _ _ (fun _ => kEc) ?_
                  try simp only [Act.put, List.setIfInBounds_toArray, List.set_cons_zero, List.set_cons_succ]
                  clear hWj hK kWc HAc
                  refine wpAnyE_oneL (k := 13) (by kernel_rfl) rfl (fun K hK => ?_)
                  go_simp
                  have hal : Below y22.heap.size y22 (y22.alloc (.cells #[.string (lnD D)] 9)) := (Below.refl _ y22).alloc (Nat.le_refl _) _
                  have hz_LB : wc.heap.size ≤ y22.heap.size := hbc.size
                  replace kEc := Blk.by hal kEc
                  replace hbc := below_on hal hbc
                  have kLc : Blk (y22.alloc (.cells #[.string (lnD D)] 9)) y22.heap.size #[.string (lnD D)] 9 := Blk.new _ rfl
                  refine hK.out _ _ (fun _ => kEc) ?_
                  try simp only [Act.put, List.setIfInBounds_toArray, List.set_cons_zero, List.set_cons_succ]
                  clear hal hK
                  generalize y22.alloc (.cells #[.string (lnD D)] 9) = y23 at *
                  generalize y22.heap.size = LB at *
                  refine wpAnyE_oneL (k := 14) (by kernel_rfl) rfl (fun K hK => ?_)
                  refine step_pushT (by rfl) _ _ (by rfl) g n c _ (by rfl) (HS8.out.by hbc) LB (lnD D) (by rfl) kLc hn8 ?_
                  intro g2 c2' y24 hS9 hgr hg2
                  replace kEc : Blk y24 E #[.int .i64 DK, .slice ap D.pins.length cp, .int .i64 D.wd, .int .i64 D.len] 52 := (hgr.block _ kEc.lt (fun e => by have := Option.some.inj e; omega)).trans kEc
                  have hsy := hbc.size
                  have hbw : Below w.heap.size w y24 := (below_on hbc hb8).grown hgr (by omega) (fun q hq => by have := Option.some.inj hq; have := HG.out; omega)
                  refine hK.out _ _ (fun _ => kEc) ?_
                  try simp only [Act.put, List.setIfInBounds_toArray, List.set_cons_zero, List.set_cons_succ]
                  clear hK
                  refine wpAnyE_oneL (k := 15) (by kernel_rfl) rfl (fun K hK => ?_)
                  go_simp
                  refine hK.out _ _ (fun h => absurd rfl h) ?_
                  refine wpAnyE_done (by kernel_rfl) ?_ _
                  clear hS
                  go_wp2
                  refine ⟨⟨k + 1, g2, c2', n + 1, HLTT.out, by go_num, rfl, Lib.hid (by have := HNE.out; omega), Lib.hid (by rw [← HLT.out]; exact hS9), Lib.hid ?_, Lib.hid hbw⟩, by have := HLTT.out; simp [intOf]; omega⟩
                  have := HG.out
                  omega
                · go_simp
                  have hal : Below y18.heap.size y18 (y18.alloc (.cells #[.int .i64 D.wd, .int .i64 D.len] 2)) := (Below.refl _ y18).alloc (Nat.le_refl _) _
                  have hz_NB : wc.heap.size ≤ y18.heap.size := hbc.size
                  have hh_NB : hi ≤ y18.heap.size := HCc.out.1
                  replace kEc := Blk.by hal kEc
                  replace HCc := Lib.hid (HCc.out.by hal)
                  replace hbc := below_on hal hbc
                  have kNc : Blk (y18.alloc (.cells #[.int .i64 D.wd, .int .i64 D.len] 2)) y18.heap.size #[.int .i64 D.wd, .int .i64 D.len] 2 := Blk.new _ rfl
                  refine hK.out _ _ (fun _ => kEc) ?_
                  try simp only [Act.put, List.setIfInBounds_toArray, List.set_cons_zero, List.set_cons_succ]
                  clear hal hK
                  generalize y18.alloc (.cells #[.int .i64 D.wd, .int .i64 D.len] 2) = y27 at *
                  generalize y18.heap.size = NB at *
                  refine wpAnyE_twoL (k := 2) (k' := 11) (by kernel_rfl) rfl rfl (fun K hK => ?_) (fun K hK => ?_)
                  · go_simp
                    have hal : Below y27.heap.size y27 (y27.alloc (.cells #[.string (kindS DK)] 9)) := (Below.refl _ y27).alloc (Nat.le_refl _) _
                    have hz_WB : wc.heap.size ≤ y27.heap.size := hbc.size
                    have hh_WB : hi ≤ y27.heap.size := HCc.out.1
                    replace kEc := Blk.by hal kEc
                    replace kNc := Blk.by hal kNc
                    replace HCc := Lib.hid (HCc.out.by hal)
                    replace hbc := below_on hal hbc
                    have kWc : Blk (y27.alloc (.cells #[.string (kindS DK)] 9)) y27.heap.size #[.string (kindS DK)] 9 := Blk.new _ rfl
                    refine hK.out _ _ (fun _ => kEc) ?_
                    try simp only [Act.put, List.setIfInBounds_toArray, List.set_cons_zero, List.set_cons_succ]
                    clear hal hK
                    generalize y27.alloc (.cells #[.string (kindS DK)] 9) = y28 at *
                    generalize y27.heap.size = WB at *
                    refine wpAnyE_oneL (k := 11) (by kernel_rfl) rfl (fun K hK => ?_)
                    have hlohi : lo ≤ hi := by have := HCc.out.own; rcases this with ⟨_, _, _, h0⟩ | ⟨_, _, _, _, e1, e2, _⟩; rw [h0] at hp2; simp at hp2; omega
                    refine step_pushI (by rfl) _ _ (by rfl) lo hi (.slice ac D.pins.length cc) D.pins [D.wd, D.len] (by rfl) HCc.out NB 2 #[.int .i64 D.wd, .int .i64 D.len] (by rfl) rfl (by omega) kNc rfl hlohi (by omega) ?_
                    intro aa ca y29 hBA hWA
                    replace kWc := hWA.blk kWc (by omega)
                    replace kEc := hWA.blk kEc (by omega)
                    replace hbc : Below wc.heap.size wc y29 := hWA.below hbc hlo
                    obtain ⟨hiA, HAc⟩ : ∃ q, Hid (BldI y29 lo q (.slice aa (D.pins.length + 2) ca) (D.pins ++ [D.wd, D.len])) := ⟨_, Lib.hid hBA⟩
                    refine hK.out _ _ (fun _ => kEc) ?_
                    try simp only [Act.put, List.setIfInBounds_toArray, List.set_cons_zero, List.set_cons_succ]
                    clear hBA hWA HCc kNc hK
                    refine wpAnyE_oneL (k := 12) (by kernel_rfl) rfl (fun K hK => ?_)
                    go_simp
                    go_at_call 26
                    refine (HLD.out w.heap.size WB lo hiA aa ca y29 (HT.out.on (below_on hbc hb8)) kWc HAc.out (by omega)).mono ?_
                    rintro e y30 ⟨rfl, hWj⟩
                    replace kEc := hWj.blk kEc (by omega)
                    replace hbc : Below wc.heap.size wc y30 := hWj.below hbc (by omega)
                    refine hK.out _ _ (fun _ => kEc) ?_
                    try simp only [Act.put, List.setIfInBounds_toArray, List.set_cons_zero, List.set_cons_succ]
                    clear hWj hK kWc HAc
                    refine wpAnyE_oneL (k := 13) (by kernel_rfl) rfl (fun K hK => ?_)
                    go_simp
                    have hal : Below y30.heap.size y30 (y30.alloc (.cells #[.string (lnD D)] 9)) := (Below.refl _ y30).alloc (Nat.le_refl _) _
                    have hz_LB : wc.heap.size ≤ y30.heap.size := hbc.size
                    replace kEc := Blk.by hal kEc
                    replace hbc := below_on hal hbc
                    have kLc : Blk (y30.alloc (.cells #[.string (lnD D)] 9)) y30.heap.size #[.string (lnD D)] 9 := Blk.new _ rfl
                    refine hK.out _ _ (fun _ => kEc) ?_
                    try simp only [Act.put, List.setIfInBounds_toArray, List.set_cons_zero, List.set_cons_succ]
                    clear hal hK
                    generalize y30.alloc (.cells #[.string (lnD D)] 9) = y31 at *
                    generalize y30.heap.size = LB at *
                    refine wpAnyE_oneL (k := 14) (by kernel_rfl) rfl (fun K hK => ?_)
                    refine step_pushT (by rfl) _ _ (by rfl) g n c _ (by rfl) (HS8.out.by hbc) LB (lnD D) (by rfl) kLc hn8 ?_
                    intro g2 c2' y32 hS9 hgr hg2
                    replace kEc : Blk y32 E #[.int .i64 DK, .slice ap D.pins.length cp, .int .i64 D.wd, .int .i64 D.len] 52 := (hgr.block _ kEc.lt (fun e => by have := Option.some.inj e; omega)).trans kEc
                    have hsy := hbc.size
                    have hbw : Below w.heap.size w y32 := (below_on hbc hb8).grown hgr (by omega) (fun q hq => by have := Option.some.inj hq; have := HG.out; omega)
                    refine hK.out _ _ (fun _ => kEc) ?_
                    try simp only [Act.put, List.setIfInBounds_toArray, List.set_cons_zero, List.set_cons_succ]
                    clear hK
                    refine wpAnyE_oneL (k := 15) (by kernel_rfl) rfl (fun K hK => ?_)
                    go_simp
                    refine hK.out _ _ (fun h => absurd rfl h) ?_
                    refine wpAnyE_done (by kernel_rfl) ?_ _
                    clear hS
                    go_wp2
                    refine ⟨⟨k + 1, g2, c2', n + 1, HLTT.out, by go_num, rfl, Lib.hid (by have := HNE.out; omega), Lib.hid (by rw [← HLT.out]; exact hS9), Lib.hid ?_, Lib.hid hbw⟩, by have := HLTT.out; simp [intOf]; omega⟩
                    have := HG.out
                    omega
                  · have hlohi : lo ≤ hi := by have := HCc.out.own; rcases this with ⟨_, _, _, h0⟩ | ⟨_, _, _, _, e1, e2, _⟩; rw [h0] at hp2; simp at hp2; omega
                    refine step_pushI (by rfl) _ _ (by rfl) lo hi (.slice ac D.pins.length cc) D.pins [D.wd, D.len] (by rfl) HCc.out NB 2 #[.int .i64 D.wd, .int .i64 D.len] (by rfl) rfl (by omega) kNc rfl hlohi (by omega) ?_
                    intro aa ca y35 hBA hWA
                    replace kEc := hWA.blk kEc (by omega)
                    replace hbc : Below wc.heap.size wc y35 := hWA.below hbc hlo
                    obtain ⟨hiA, HAc⟩ : ∃ q, Hid (BldI y35 lo q (.slice aa (D.pins.length + 2) ca) (D.pins ++ [D.wd, D.len])) := ⟨_, Lib.hid hBA⟩
                    refine hK.out _ _ (fun _ => kEc) ?_
                    try simp only [Act.put, List.setIfInBounds_toArray, List.set_cons_zero, List.set_cons_succ]
                    clear hBA hWA HCc kNc hK
                    refine wpAnyE_oneL (k := 2) (by kernel_rfl) rfl (fun K hK => ?_)
                    go_simp
                    have hal : Below y35.heap.size y35 (y35.alloc (.cells #[.string (kindS DK)] 9)) := (Below.refl _ y35).alloc (Nat.le_refl _) _
                    have hz_WB : wc.heap.size ≤ y35.heap.size := hbc.size
                    replace kEc := Blk.by hal kEc
                    replace HAc := Lib.hid (HAc.out.by hal)
                    replace hbc := below_on hal hbc
                    have kWc : Blk (y35.alloc (.cells #[.string (kindS DK)] 9)) y35.heap.size #[.string (kindS DK)] 9 := Blk.new _ rfl
                    refine hK.out _ _ (fun _ => kEc) ?_
                    try simp only [Act.put, List.setIfInBounds_toArray, List.set_cons_zero, List.set_cons_succ]
                    clear hal hK
                    generalize y35.alloc (.cells #[.string (kindS DK)] 9) = y36 at *
                    generalize y35.heap.size = WB at *
                    refine wpAnyE_oneL (k := 12) (by kernel_rfl) rfl (fun K hK => ?_)
                    go_simp
                    go_at_call 26
                    refine (HLD.out w.heap.size WB lo hiA aa ca y36 (HT.out.on (below_on hbc hb8)) kWc HAc.out (by omega)).mono ?_
                    rintro e y37 ⟨rfl, hWj⟩
                    replace kEc := hWj.blk kEc (by omega)
                    replace hbc : Below wc.heap.size wc y37 := hWj.below hbc (by omega)
                    refine hK.out _ _ (fun _ => kEc) ?_
                    try simp only [Act.put, List.setIfInBounds_toArray, List.set_cons_zero, List.set_cons_succ]
                    clear hWj hK kWc HAc
                    refine wpAnyE_oneL (k := 13) (by kernel_rfl) rfl (fun K hK => ?_)
                    go_simp
                    have hal : Below y37.heap.size y37 (y37.alloc (.cells #[.string (lnD D)] 9)) := (Below.refl _ y37).alloc (Nat.le_refl _) _
                    have hz_LB : wc.heap.size ≤ y37.heap.size := hbc.size
                    replace kEc := Blk.by hal kEc
                    replace hbc := below_on hal hbc
                    have kLc : Blk (y37.alloc (.cells #[.string (lnD D)] 9)) y37.heap.size #[.string (lnD D)] 9 := Blk.new _ rfl
                    refine hK.out _ _ (fun _ => kEc) ?_
                    try simp only [Act.put, List.setIfInBounds_toArray, List.set_cons_zero, List.set_cons_succ]
                    clear hal hK
                    generalize y37.alloc (.cells #[.string (lnD D)] 9) = y38 at *
                    generalize y37.heap.size = LB at *
                    refine wpAnyE_oneL (k := 14) (by kernel_rfl) rfl (fun K hK => ?_)
                    refine step_pushT (by rfl) _ _ (by rfl) g n c _ (by rfl) (HS8.out.by hbc) LB (lnD D) (by rfl) kLc hn8 ?_
                    intro g2 c2' y39 hS9 hgr hg2
                    replace kEc : Blk y39 E #[.int .i64 DK, .slice ap D.pins.length cp, .int .i64 D.wd, .int .i64 D.len] 52 := (hgr.block _ kEc.lt (fun e => by have := Option.some.inj e; omega)).trans kEc
                    have hsy := hbc.size
                    have hbw : Below w.heap.size w y39 := (below_on hbc hb8).grown hgr (by omega) (fun q hq => by have := Option.some.inj hq; have := HG.out; omega)
                    refine hK.out _ _ (fun _ => kEc) ?_
                    try simp only [Act.put, List.setIfInBounds_toArray, List.set_cons_zero, List.set_cons_succ]
                    clear hK
                    refine wpAnyE_oneL (k := 15) (by kernel_rfl) rfl (fun K hK => ?_)
                    go_simp
                    refine hK.out _ _ (fun h => absurd rfl h) ?_
                    refine wpAnyE_done (by kernel_rfl) ?_ _
                    clear hS
                    go_wp2
                    refine ⟨⟨k + 1, g2, c2', n + 1, HLTT.out, by go_num, rfl, Lib.hid (by have := HNE.out; omega), Lib.hid (by rw [← HLT.out]; exact hS9), Lib.hid ?_, Lib.hid hbw⟩, by have := HLTT.out; simp [intOf]; omega⟩
                    have := HG.out
                    omega
              · go_simp
                have hal : Below y0.heap.size y0 (y0.alloc (.cells #[.int .i64 D.wd, .int .i64 D.len] 2)) := (Below.refl _ y0).alloc (Nat.le_refl _) _
                have hz_NB : wc.heap.size ≤ y0.heap.size := hbc.size
                replace kEc := Blk.by hal kEc
                replace hbc := below_on hal hbc
                have kNc : Blk (y0.alloc (.cells #[.int .i64 D.wd, .int .i64 D.len] 2)) y0.heap.size #[.int .i64 D.wd, .int .i64 D.len] 2 := Blk.new _ rfl
                refine hK.out _ _ (fun _ => kEc) ?_
                try simp only [Act.put, List.setIfInBounds_toArray, List.set_cons_zero, List.set_cons_succ]
                clear hal hK
                generalize y0.alloc (.cells #[.int .i64 D.wd, .int .i64 D.len] 2) = y42 at *
                generalize y0.heap.size = NB at *
                refine wpAnyE_twoL (k := 2) (k' := 5) (by kernel_rfl) rfl rfl (fun K hK => ?_) (fun K hK => ?_)
                · go_simp
                  have hal : Below y42.heap.size y42 (y42.alloc (.cells #[.string (kindS DK)] 9)) := (Below.refl _ y42).alloc (Nat.le_refl _) _
                  have hz_WB : wc.heap.size ≤ y42.heap.size := hbc.size
                  replace kEc := Blk.by hal kEc
                  replace kNc := Blk.by hal kNc
                  replace hbc := below_on hal hbc
                  have kWc : Blk (y42.alloc (.cells #[.string (kindS DK)] 9)) y42.heap.size #[.string (kindS DK)] 9 := Blk.new _ rfl
                  refine hK.out _ _ (fun _ => kEc) ?_
                  try simp only [Act.put, List.setIfInBounds_toArray, List.set_cons_zero, List.set_cons_succ]
                  clear hal hK
                  generalize y42.alloc (.cells #[.string (kindS DK)] 9) = y43 at *
                  generalize y42.heap.size = WB at *
                  refine wpAnyE_oneL (k := 5) (by kernel_rfl) rfl (fun K hK => ?_)
                  go_simp
                  go_at_call 27
                  refine (HCL.out y43 (HPV8.out.by hbc)).mono ?_
                  rintro e y44 ⟨vc, rfl, hBC, hbq⟩
                  obtain ⟨ac, cc, rfl⟩ := hBC.sized
                  have hWlo : WB < y43.heap.size := kWc.lt
                  have hlo : wc.heap.size ≤ y43.heap.size := hbc.size
                  replace kEc := Blk.by hbq kEc
                  replace kWc := Blk.by hbq kWc
                  replace kNc := Blk.by hbq kNc
                  replace hbc := below_on hbq hbc
                  obtain ⟨lo, hi, hlo2, HCc⟩ : ∃ lo hi, lo = y43.heap.size ∧ Hid (BldI y44 lo hi (.slice ac D.pins.length cc) D.pins) := ⟨_, _, rfl, Lib.hid hBC⟩
                  rw [← hlo2] at hlo hWlo
                  refine hK.out _ _ (fun _ => kEc) ?_
                  try simp only [Act.put, List.setIfInBounds_toArray, List.set_cons_zero, List.set_cons_succ]
                  clear hbq hBC hlo2 hK
                  refine wpAnyE_oneL (k := 11) (by kernel_rfl) rfl (fun K hK => ?_)
                  have hlohi : lo ≤ hi := by have := HCc.out.own; rcases this with ⟨_, _, _, h0⟩ | ⟨_, _, _, _, e1, e2, _⟩; rw [h0] at hp2; simp at hp2; omega
                  refine step_pushI (by rfl) _ _ (by rfl) lo hi (.slice ac D.pins.length cc) D.pins [D.wd, D.len] (by rfl) HCc.out NB 2 #[.int .i64 D.wd, .int .i64 D.len] (by rfl) rfl (by omega) kNc rfl hlohi (by omega) ?_
                  intro aa ca y45 hBA hWA
                  replace kWc := hWA.blk kWc (by omega)
                  replace kEc := hWA.blk kEc (by omega)
                  replace hbc : Below wc.heap.size wc y45 := hWA.below hbc hlo
                  obtain ⟨hiA, HAc⟩ : ∃ q, Hid (BldI y45 lo q (.slice aa (D.pins.length + 2) ca) (D.pins ++ [D.wd, D.len])) := ⟨_, Lib.hid hBA⟩
                  refine hK.out _ _ (fun _ => kEc) ?_
                  try simp only [Act.put, List.setIfInBounds_toArray, List.set_cons_zero, List.set_cons_succ]
                  clear hBA hWA HCc kNc hK
                  refine wpAnyE_oneL (k := 12) (by kernel_rfl) rfl (fun K hK => ?_)
                  go_simp
                  go_at_call 26
                  refine (HLD.out w.heap.size WB lo hiA aa ca y45 (HT.out.on (below_on hbc hb8)) kWc HAc.out (by omega)).mono ?_
                  rintro e y46 ⟨rfl, hWj⟩
                  replace kEc := hWj.blk kEc (by omega)
                  replace hbc : Below wc.heap.size wc y46 := hWj.below hbc (by omega)
                  refine hK.out _ _ (fun _ => kEc) ?_
                  try simp only [Act.put, List.setIfInBounds_toArray, List.set_cons_zero, List.set_cons_succ]
                  clear hWj hK kWc HAc
                  refine wpAnyE_oneL (k := 13) (by kernel_rfl) rfl (fun K hK => ?_)
                  go_simp
                  have hal : Below y46.heap.size y46 (y46.alloc (.cells #[.string (lnD D)] 9)) := (Below.refl _ y46).alloc (Nat.le_refl _) _
                  have hz_LB : wc.heap.size ≤ y46.heap.size := hbc.size
                  replace kEc := Blk.by hal kEc
                  replace hbc := below_on hal hbc
                  have kLc : Blk (y46.alloc (.cells #[.string (lnD D)] 9)) y46.heap.size #[.string (lnD D)] 9 := Blk.new _ rfl
                  refine hK.out _ _ (fun _ => kEc) ?_
                  try simp only [Act.put, List.setIfInBounds_toArray, List.set_cons_zero, List.set_cons_succ]
                  clear hal hK
                  generalize y46.alloc (.cells #[.string (lnD D)] 9) = y47 at *
                  generalize y46.heap.size = LB at *
                  refine wpAnyE_oneL (k := 14) (by kernel_rfl) rfl (fun K hK => ?_)
                  refine step_pushT (by rfl) _ _ (by rfl) g n c _ (by rfl) (HS8.out.by hbc) LB (lnD D) (by rfl) kLc hn8 ?_
                  intro g2 c2' y48 hS9 hgr hg2
                  replace kEc : Blk y48 E #[.int .i64 DK, .slice ap D.pins.length cp, .int .i64 D.wd, .int .i64 D.len] 52 := (hgr.block _ kEc.lt (fun e => by have := Option.some.inj e; omega)).trans kEc
                  have hsy := hbc.size
                  have hbw : Below w.heap.size w y48 := (below_on hbc hb8).grown hgr (by omega) (fun q hq => by have := Option.some.inj hq; have := HG.out; omega)
                  refine hK.out _ _ (fun _ => kEc) ?_
                  try simp only [Act.put, List.setIfInBounds_toArray, List.set_cons_zero, List.set_cons_succ]
                  clear hK
                  refine wpAnyE_oneL (k := 15) (by kernel_rfl) rfl (fun K hK => ?_)
                  go_simp
                  refine hK.out _ _ (fun h => absurd rfl h) ?_
                  refine wpAnyE_done (by kernel_rfl) ?_ _
                  clear hS
                  go_wp2
                  refine ⟨⟨k + 1, g2, c2', n + 1, HLTT.out, by go_num, rfl, Lib.hid (by have := HNE.out; omega), Lib.hid (by rw [← HLT.out]; exact hS9), Lib.hid ?_, Lib.hid hbw⟩, by have := HLTT.out; simp [intOf]; omega⟩
                  have := HG.out
                  omega
                · go_simp
                  go_at_call 27
                  refine (HCL.out y42 (HPV8.out.by hbc)).mono ?_
                  rintro e y51 ⟨vc, rfl, hBC, hbq⟩
                  obtain ⟨ac, cc, rfl⟩ := hBC.sized
                  have hlo : wc.heap.size ≤ y42.heap.size := hbc.size
                  replace kEc := Blk.by hbq kEc
                  replace kNc := Blk.by hbq kNc
                  replace hbc := below_on hbq hbc
                  obtain ⟨lo, hi, hlo2, HCc⟩ : ∃ lo hi, lo = y42.heap.size ∧ Hid (BldI y51 lo hi (.slice ac D.pins.length cc) D.pins) := ⟨_, _, rfl, Lib.hid hBC⟩
                  rw [← hlo2] at hlo
                  refine hK.out _ _ (fun _ => kEc) ?_
                  try simp only [Act.put, List.setIfInBounds_toArray, List.set_cons_zero, List.set_cons_succ]
                  clear hbq hBC hlo2 hK
                  refine wpAnyE_twoL (k := 2) (k' := 11) (by kernel_rfl) rfl rfl (fun K hK => ?_) (fun K hK => ?_)
                  · go_simp
                    have hal : Below y51.heap.size y51 (y51.alloc (.cells #[.string (kindS DK)] 9)) := (Below.refl _ y51).alloc (Nat.le_refl _) _
                    have hz_WB : wc.heap.size ≤ y51.heap.size := hbc.size
                    have hh_WB : hi ≤ y51.heap.size := HCc.out.1
                    replace kEc := Blk.by hal kEc
                    replace kNc := Blk.by hal kNc
                    replace HCc := Lib.hid (HCc.out.by hal)
                    replace hbc := below_on hal hbc
                    have kWc : Blk (y51.alloc (.cells #[.string (kindS DK)] 9)) y51.heap.size #[.string (kindS DK)] 9 := Blk.new _ rfl
                    refine hK.out _ _ (fun _ => kEc) ?_
                    try simp only [Act.put, List.setIfInBounds_toArray, List.set_cons_zero, List.set_cons_succ]
                    clear hal hK
                    generalize y51.alloc (.cells #[.string (kindS DK)] 9) = y52 at *
                    generalize y51.heap.size = WB at *
                    refine wpAnyE_oneL (k := 11) (by kernel_rfl) rfl (fun K hK => ?_)
                    have hlohi : lo ≤ hi := by have := HCc.out.own; rcases this with ⟨_, _, _, h0⟩ | ⟨_, _, _, _, e1, e2, _⟩; rw [h0] at hp2; simp at hp2; omega
                    refine step_pushI (by rfl) _ _ (by rfl) lo hi (.slice ac D.pins.length cc) D.pins [D.wd, D.len] (by rfl) HCc.out NB 2 #[.int .i64 D.wd, .int .i64 D.len] (by rfl) rfl (by omega) kNc rfl hlohi (by omega) ?_
                    intro aa ca y53 hBA hWA
                    replace kWc := hWA.blk kWc (by omega)
                    replace kEc := hWA.blk kEc (by omega)
                    replace hbc : Below wc.heap.size wc y53 := hWA.below hbc hlo
                    obtain ⟨hiA, HAc⟩ : ∃ q, Hid (BldI y53 lo q (.slice aa (D.pins.length + 2) ca) (D.pins ++ [D.wd, D.len])) := ⟨_, Lib.hid hBA⟩
                    refine hK.out _ _ (fun _ => kEc) ?_
                    try simp only [Act.put, List.setIfInBounds_toArray, List.set_cons_zero, List.set_cons_succ]
                    clear hBA hWA HCc kNc hK
                    refine wpAnyE_oneL (k := 12) (by kernel_rfl) rfl (fun K hK => ?_)
                    go_simp
                    go_at_call 26
                    refine (HLD.out w.heap.size WB lo hiA aa ca y53 (HT.out.on (below_on hbc hb8)) kWc HAc.out (by omega)).mono ?_
                    rintro e y54 ⟨rfl, hWj⟩
                    replace kEc := hWj.blk kEc (by omega)
                    replace hbc : Below wc.heap.size wc y54 := hWj.below hbc (by omega)
                    refine hK.out _ _ (fun _ => kEc) ?_
                    try simp only [Act.put, List.setIfInBounds_toArray, List.set_cons_zero, List.set_cons_succ]
                    clear hWj hK kWc HAc
                    refine wpAnyE_oneL (k := 13) (by kernel_rfl) rfl (fun K hK => ?_)
                    go_simp
                    have hal : Below y54.heap.size y54 (y54.alloc (.cells #[.string (lnD D)] 9)) := (Below.refl _ y54).alloc (Nat.le_refl _) _
                    have hz_LB : wc.heap.size ≤ y54.heap.size := hbc.size
                    replace kEc := Blk.by hal kEc
                    replace hbc := below_on hal hbc
                    have kLc : Blk (y54.alloc (.cells #[.string (lnD D)] 9)) y54.heap.size #[.string (lnD D)] 9 := Blk.new _ rfl
                    refine hK.out _ _ (fun _ => kEc) ?_
                    try simp only [Act.put, List.setIfInBounds_toArray, List.set_cons_zero, List.set_cons_succ]
                    clear hal hK
                    generalize y54.alloc (.cells #[.string (lnD D)] 9) = y55 at *
                    generalize y54.heap.size = LB at *
                    refine wpAnyE_oneL (k := 14) (by kernel_rfl) rfl (fun K hK => ?_)
                    refine step_pushT (by rfl) _ _ (by rfl) g n c _ (by rfl) (HS8.out.by hbc) LB (lnD D) (by rfl) kLc hn8 ?_
                    intro g2 c2' y56 hS9 hgr hg2
                    replace kEc : Blk y56 E #[.int .i64 DK, .slice ap D.pins.length cp, .int .i64 D.wd, .int .i64 D.len] 52 := (hgr.block _ kEc.lt (fun e => by have := Option.some.inj e; omega)).trans kEc
                    have hsy := hbc.size
                    have hbw : Below w.heap.size w y56 := (below_on hbc hb8).grown hgr (by omega) (fun q hq => by have := Option.some.inj hq; have := HG.out; omega)
                    refine hK.out _ _ (fun _ => kEc) ?_
                    try simp only [Act.put, List.setIfInBounds_toArray, List.set_cons_zero, List.set_cons_succ]
                    clear hK
                    refine wpAnyE_oneL (k := 15) (by kernel_rfl) rfl (fun K hK => ?_)
                    go_simp
                    refine hK.out _ _ (fun h => absurd rfl h) ?_
                    refine wpAnyE_done (by kernel_rfl) ?_ _
                    clear hS
                    go_wp2
                    refine ⟨⟨k + 1, g2, c2', n + 1, HLTT.out, by go_num, rfl, Lib.hid (by have := HNE.out; omega), Lib.hid (by rw [← HLT.out]; exact hS9), Lib.hid ?_, Lib.hid hbw⟩, by have := HLTT.out; simp [intOf]; omega⟩
                    have := HG.out
                    omega
                  · have hlohi : lo ≤ hi := by have := HCc.out.own; rcases this with ⟨_, _, _, h0⟩ | ⟨_, _, _, _, e1, e2, _⟩; rw [h0] at hp2; simp at hp2; omega
                    refine step_pushI (by rfl) _ _ (by rfl) lo hi (.slice ac D.pins.length cc) D.pins [D.wd, D.len] (by rfl) HCc.out NB 2 #[.int .i64 D.wd, .int .i64 D.len] (by rfl) rfl (by omega) kNc rfl hlohi (by omega) ?_
                    intro aa ca y59 hBA hWA
                    replace kEc := hWA.blk kEc (by omega)
                    replace hbc : Below wc.heap.size wc y59 := hWA.below hbc hlo
                    obtain ⟨hiA, HAc⟩ : ∃ q, Hid (BldI y59 lo q (.slice aa (D.pins.length + 2) ca) (D.pins ++ [D.wd, D.len])) := ⟨_, Lib.hid hBA⟩
                    refine hK.out _ _ (fun _ => kEc) ?_
                    try simp only [Act.put, List.setIfInBounds_toArray, List.set_cons_zero, List.set_cons_succ]
                    clear hBA hWA HCc kNc hK
                    refine wpAnyE_oneL (k := 2) (by kernel_rfl) rfl (fun K hK => ?_)
                    go_simp
                    have hal : Below y59.heap.size y59 (y59.alloc (.cells #[.string (kindS DK)] 9)) := (Below.refl _ y59).alloc (Nat.le_refl _) _
                    have hz_WB : wc.heap.size ≤ y59.heap.size := hbc.size
                    replace kEc := Blk.by hal kEc
                    replace HAc := Lib.hid (HAc.out.by hal)
                    replace hbc := below_on hal hbc
                    have kWc : Blk (y59.alloc (.cells #[.string (kindS DK)] 9)) y59.heap.size #[.string (kindS DK)] 9 := Blk.new _ rfl
                    refine hK.out _ _ (fun _ => kEc) ?_
                    try simp only [Act.put, List.setIfInBounds_toArray, List.set_cons_zero, List.set_cons_succ]
                    clear hal hK
                    generalize y59.alloc (.cells #[.string (kindS DK)] 9) = y60 at *
                    generalize y59.heap.size = WB at *
                    refine wpAnyE_oneL (k := 12) (by kernel_rfl) rfl (fun K hK => ?_)
                    go_simp
                    go_at_call 26
                    refine (HLD.out w.heap.size WB lo hiA aa ca y60 (HT.out.on (below_on hbc hb8)) kWc HAc.out (by omega)).mono ?_
                    rintro e y61 ⟨rfl, hWj⟩
                    replace kEc := hWj.blk kEc (by omega)
                    replace hbc : Below wc.heap.size wc y61 := hWj.below hbc (by omega)
                    refine hK.out _ _ (fun _ => kEc) ?_
                    try simp only [Act.put, List.setIfInBounds_toArray, List.set_cons_zero, List.set_cons_succ]
                    clear hWj hK kWc HAc
                    refine wpAnyE_oneL (k := 13) (by kernel_rfl) rfl (fun K hK => ?_)
                    go_simp
                    have hal : Below y61.heap.size y61 (y61.alloc (.cells #[.string (lnD D)] 9)) := (Below.refl _ y61).alloc (Nat.le_refl _) _
                    have hz_LB : wc.heap.size ≤ y61.heap.size := hbc.size
                    replace kEc := Blk.by hal kEc
                    replace hbc := below_on hal hbc
                    have kLc : Blk (y61.alloc (.cells #[.string (lnD D)] 9)) y61.heap.size #[.string (lnD D)] 9 := Blk.new _ rfl
                    refine hK.out _ _ (fun _ => kEc) ?_
                    try simp only [Act.put, List.setIfInBounds_toArray, List.set_cons_zero, List.set_cons_succ]
                    clear hal hK
                    generalize y61.alloc (.cells #[.string (lnD D)] 9) = y62 at *
                    generalize y61.heap.size = LB at *
                    refine wpAnyE_oneL (k := 14) (by kernel_rfl) rfl (fun K hK => ?_)
                    refine step_pushT (by rfl) _ _ (by rfl) g n c _ (by rfl) (HS8.out.by hbc) LB (lnD D) (by rfl) kLc hn8 ?_
                    intro g2 c2' y63 hS9 hgr hg2
                    replace kEc : Blk y63 E #[.int .i64 DK, .slice ap D.pins.length cp, .int .i64 D.wd, .int .i64 D.len] 52 := (hgr.block _ kEc.lt (fun e => by have := Option.some.inj e; omega)).trans kEc
                    have hsy := hbc.size
                    have hbw : Below w.heap.size w y63 := (below_on hbc hb8).grown hgr (by omega) (fun q hq => by have := Option.some.inj hq; have := HG.out; omega)
                    refine hK.out _ _ (fun _ => kEc) ?_
                    try simp only [Act.put, List.setIfInBounds_toArray, List.set_cons_zero, List.set_cons_succ]
                    clear hK
                    refine wpAnyE_oneL (k := 15) (by kernel_rfl) rfl (fun K hK => ?_)
                    go_simp
                    refine hK.out _ _ (fun h => absurd rfl h) ?_
                    refine wpAnyE_done (by kernel_rfl) ?_ _
                    clear hS
                    go_wp2
                    refine ⟨⟨k + 1, g2, c2', n + 1, HLTT.out, by go_num, rfl, Lib.hid (by have := HNE.out; omega), Lib.hid (by rw [← HLT.out]; exact hS9), Lib.hid ?_, Lib.hid hbw⟩, by have := HLTT.out; simp [intOf]; omega⟩
                    have := HG.out
                    omega
          · obtain rfl : k = x.ds.length := by omega
            have i4 : ¬ (x.ds.length : Int) < (x.ds.length : Int) := by omega
            have hS := HS.out
            rw [List.take_length] at hS
            have hS2 : SBld wr g n c (linesI x) := hS
            obtain ⟨hc1, hcell⟩ := hS2.cell
            have hlen := hS2.2.1
            have hgl1 := hS2.2.2
            have hn1 : n ≤ 40 := by have := HNE.out; omega
            have hjb := jn_bound (linesI x) ⟨#[10]⟩ 10000100 HSL.out
            have z1 : (ByteArray.mk #[10]).size = 1 := rfl
            have hj2 : (Go.Lib.join ((linesI x).map (·.data.toList)) (⟨#[10]⟩ : ByteArray).data.toList).length ≤ 1000000000 := by
              rw [hlen, z1] at hjb
              have : n * (1 + 10000100) ≤ 40 * (1 + 10000100) := Nat.mul_le_mul_right _ hn1
              omega
            have hx1 : (linesI x).length ≤ 140737488355328 := by rw [hlen]; omega
            have hx2 : (linesI x).length ≤ c := by rw [hlen]; exact hc1
            have hx3 := Nat.le_trans hj2 (show 1000000000 ≤ 140737488355328 by decide)
            clear hjb
            have hJ := HJ.out g 0 c (linesI x) ⟨#[10]⟩ wr (fun j x hx => by rw [Nat.zero_add]; exact hcell j x hx) hgl1 hx1 hx2 hx3
            rw [hlen] at hJ
            replace hJ : Calls Tryd.prog 28 #[.slice (some ⟨g, 0, none⟩) n c, .string ⟨#[10]⟩] wr fun e w' => e = .returned (.string (jnB (linesI x) nlBt)) ∧ Below wr.heap.size wr w' := hJ
            have hF := HFM.out
            have hjs : (jnB (linesI x) nlBt).size ≤ 1000000000 := by rw [← size_data, jnB_data]; exact hj2
            obtain ⟨J, hJe⟩ : ∃ J, jnB (linesI x) nlBt = J := ⟨_, rfl⟩
            rw [hJe] at hJ hF hjs
            have ha := fun w => run_string_add_sum (P := Tryd.prog) w J ⟨#[10]⟩ (by rw [z1]; omega)
            have hF2 : J ++ ⟨#[10]⟩ = fmtS x := hF
            rw [hF2] at ha
            have HJJ := Lib.hid hJ
            clear hJ hj2 hx1 hx2 hx3 hcell hlen hS hS2 hF hF2 hJe HS HNE hc1 HSL z1 hk
            go_wp2_with fail
            refine HJJ.out.mono ?_
            rintro e w9 ⟨rfl, hb9⟩
            go_wp2
            go_ret
            exact ⟨rfl, below_on hb9 HB.out⟩
end Go.Proofs.YtglddnkpccgchaaDoor
