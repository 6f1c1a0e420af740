/- Taking operations of a drawn region one by one: the operation is read off the list, so that the state stays small. -/
import Derived.Test.YtlkcdelihdkgbaaGreatBase
import Derived.Test.YtlkcdelihdkgbaaGreatSrc
import Derived.Test.YtlkcdelihdkgbaaGreatOrdB
import Derived.Test.YtlkcdelihdkgbaaGreatDevs
import Derived.BigRegion
import Derived.Deep.RegionHeld3
import Derived.Deep.RegionHeldLaw
import Derived.Deep.DeepCutAuto
namespace Go.Proofs.YtlkcdelihdkgbaaGreat
open Go.RowKit
section
variable {P : Program} {ops : Array Oper} {Q : Exit → Act → World → Prop} {md : Region.Mode} {S : World → Prop} {l : Nat}
theorem opsL {i : Nat} {oi : Oper} (hi : ops.toList[i]? = some oi) : ops[i]? = some oi := by rw [← Array.getElem?_toList]; exact hi
theorem wpAnyE_takeL {i : Nat} {oi : Oper} {v : Value} {fuel : Nat} {listed : Array Bool} {a : Act} {w : World} (hi : ops.toList[i]? = some oi)
    (hk : (Region.noSelect ops && Region.free md ops listed i && (Region.ready md ops listed).contains i && headB md ops l listed && Region.sinkB md ops l && Region.chainB md ops l && decide (l < ops.size) && decide (i < l)) = true)
    (hQ : ∀ c a w, Q (.panic c) (a.put oi.dst v) w → Q (.panic c) a w) (hy : YieldsIf P ops S oi v a) (hS : S w)
    (h : wpAnyE P md ops Q S l fuel (listed.setIfInBounds i true) (a.put oi.dst v) w) : wpAnyE P md ops Q S l (fuel + 1) listed a w :=
  wpAnyE_take (opsL hi) hk hQ hy hS h
theorem wpAnyE_oneL {k : Nat} {o : Oper} {fuel : Nat} {listed : Array Bool} {a : Act} {w : World} (hr : Region.ready md ops listed = [k]) (ho : ops.toList[k]? = some o)
    (h : ∀ K' : Act → World → Prop, Shut (∀ a w, (k ≠ l → S w) → wpAnyE P md ops Q S l fuel (listed.setIfInBounds k true) a w → K' a w) → if Region.wanted o (yielded ops a.tmps) = true then Oper.wp P o a w K' Q else K' (a.put o.dst undef) w) :
    wpAnyE P md ops Q S l (fuel + 1) listed a w := wpAnyE_one hr (opsL ho) h
/-- Two may come up. -/
theorem wpAnyE_twoL {k k' : Nat} {o o' : Oper} {fuel : Nat} {listed : Array Bool} {a : Act} {w : World} (hr : Region.ready md ops listed = [k, k']) (ho : ops.toList[k]? = some o) (ho' : ops.toList[k']? = some o')
    (h : ∀ K' : Act → World → Prop, Shut (∀ a w, (k ≠ l → S w) → wpAnyE P md ops Q S l fuel (listed.setIfInBounds k true) a w → K' a w) → if Region.wanted o (yielded ops a.tmps) = true then Oper.wp P o a w K' Q else K' (a.put o.dst undef) w)
    (h' : ∀ K' : Act → World → Prop, Shut (∀ a w, (k' ≠ l → S w) → wpAnyE P md ops Q S l fuel (listed.setIfInBounds k' true) a w → K' a w) → if Region.wanted o' (yielded ops a.tmps) = true then Oper.wp P o' a w K' Q else K' (a.put o'.dst undef) w) :
    wpAnyE P md ops Q S l (fuel + 1) listed a w := by
  refine ⟨fun h0 => (by rw [h0] at hr; cases hr), fun i hi => ?_⟩
  rw [hr] at hi
  have hik : i = k ∨ i = k' := by simpa using hi
  rcases hik with rfl | rfl
  · exact wpOp_step (opsL ho) (fun K' hK => h K' (fun a w hS hW => hK a w ⟨hS, hW⟩))
  · exact wpOp_step (opsL ho') (fun K' hK => h' K' (fun a w hS hW => hK a w ⟨hS, hW⟩))
end
end Go.Proofs.YtlkcdelihdkgbaaGreat

/- The draws of orders and matchings: any list of some length. -/
namespace Go.Proofs.YtlkcdelihdkgbaaGreat
open Go.RowKit
set_option linter.unusedVariables false
set_option linter.unusedSimpArgs false

theorem icells_set (zs : List Int) (i : Nat) (y : Int) : icells (zs.set i y) = (icells zs).set i (.int .i64 y) := by simp [icells, List.map_set]
/-- One number of a growing slice turned in place. -/
theorem BldI.setAt {w : World} {lo hi G n cap : Nat} {zs : List Int} (h : BldI w lo hi (.slice (some ⟨G, 0, none⟩) n cap) zs) (i : Nat) (y : Int) : BldI (w.setCell ⟨G, i, none⟩ (.int .i64 y)) lo hi (.slice (some ⟨G, 0, none⟩) n cap) (zs.set i y) := by
  obtain ⟨hs, ⟨hlen, r⟩, h3⟩ := h
  refine ⟨by simpa using hs, ⟨by simp [icells], ?_⟩, h3⟩
  rcases r with ⟨r1, _⟩ | ⟨g, cap', cur, e1, e2, e3, e4, e5, e6, e7⟩
  · cases r1
  · have hg : G = g := by have := congrArg Value.ownBlock e1; simpa [Value.ownBlock] using this
    subst hg
    refine .inr ⟨G, cap', cur.setIfInBounds i (.int .i64 y), by rw [List.length_set]; exact e1, e2, Blk.set e3 i _, by rw [List.length_set]; exact e4, e5, by simpa using e6, ?_⟩
    rw [icells_set, ← e7, List.length_set, Array.toList_setIfInBounds, List.take_set]
theorem BldI.blk {w : World} {lo hi : Nat} {v : Value} {zs : List Int} (h : BldI w lo hi v zs) (h0 : 0 < zs.length) :
    ∃ G cap cs, v = .slice (some ⟨G, 0, none⟩) zs.length cap ∧ (lo ≤ G ∧ G < hi) ∧ Blk w G cs 2 ∧ ∀ (i : Nat) z, zs[i]? = some z → w.cell? ⟨G, i, none⟩ = some (.int .i64 z) := by
  obtain ⟨hs, ⟨hlen, r⟩, h3⟩ := h
  rcases r with ⟨_, r1⟩ | ⟨g, cap', cur, rfl, e2, e3, e4, e5, e6, e7⟩
  · omega
  · refine ⟨g, cap', cur, rfl, h3 g rfl, e3, fun i z hz => ?_⟩
    have hi : i < zs.length := (List.getElem?_eq_some_iff.1 hz).1
    have : (icells zs)[i]? = some (.int .i64 z) := by simp [icells, hz]
    rw [← e7, List.getElem?_take_of_lt (by omega)] at this
    rw [Blk.cell e3]
    simpa using this

set_option maxRecDepth 100000 in
set_option maxHeartbeats 1000000 in
theorem l27Identity_any (m : Nat) (hm : m ≤ 1000) (w : World) :
    Calls Tryz.prog 65 #[.int .i64 (m : Int)] w fun e w' => ∃ v, e = .returned v ∧ BldI w' w.heap.size w'.heap.size v (iota m) ∧ Below w.heap.size w w' := by
  have HI := Lib.hid (fun k : Nat => show iota (k + 1) = iota k ++ [(k : Int)] by simp [iota, List.range_succ])
  have HL := Lib.hid (fun k : Nat => length_iota k)
  go_enter Tryz.func65, Tryz.ntmps65
  go_wp2
  go_loopw [3, 4] (fun u i wr => ∃ (k hi : Nat), k ≤ m ∧ i = .int .i64 (k : Int) ∧ Hid (BldI wr w.heap.size hi u (iota k)) ∧ w.heap.size < hi ∧ Below w.heap.size w wr) (fun _ i _ => m - (intOf i).toNat)
  case atStart =>
    refine ⟨0, w.heap.size + 1, Nat.zero_le _, rfl, Lib.hid ?_, by omega, (by ((repeat (first | (with_reducible exact Below.refl _ _) | (with_reducible refine below_drewN ?_ _) | (with_reducible refine Below.drew ?_) | (with_reducible refine below_al ?_ _) | (with_reducible refine below_on (by assumption) ?_) | ((with_reducible refine Below.setCell ?_ ?_ _); rotate_left; focus (first | omega | (simp; done) | (simp; omega))) | (with_reducible assumption))); done))⟩
    have hB : Blk (w.alloc (.cells #[] 2)) w.heap.size #[] 2 := Blk.new _ rfl
    exact BldI.lit (zs := []) hB rfl (by simp) (Nat.le_refl _) (by omega) (by simp)
  case round =>
    obtain ⟨k, hi, hk, rfl, HB, hhi, hb⟩ := hrel
    obtain ⟨a, c, rfl⟩ := HB.out.sized
    rw [HL.out k] at HB ⊢
    have hIs := HB.out.1
    have hlk := HL.out k
    have HLK := Lib.hid hlk
    by_cases hlt : k < m
    · have HX := Lib.hid (HI.out k)
      have i1 : (k : Int) < (m : Int) := by omega
      obtain ⟨Z, hZ⟩ : ∃ Z, iota k = Z := ⟨_, rfl⟩
      rw [hZ] at HB HLK HX
      have hzl : Z.length + 1 ≤ 2000 := by rw [HLK.out]; omega
      clear hZ hlk
      go_wp2_with (refine list_pushI (by rfl) _ _ (by rfl) w.heap.size hi (.slice a k c) Z [(k : Int)] (by rfl) (HB.out.by (by ((repeat (first | (with_reducible exact Below.refl _ _) | (with_reducible refine below_drewN ?_ _) | (with_reducible refine Below.drew ?_) | (with_reducible refine below_al ?_ _) | (with_reducible refine below_on (by assumption) ?_) | ((with_reducible refine Below.setCell ?_ ?_ _); rotate_left; focus (first | omega | (simp; done) | (simp; omega))) | (with_reducible assumption))); done))) wr.heap.size 1 #[.int .i64 (k : Int)] (by rfl) (by rfl) (by omega) (Blk.new _ rfl) (by rfl) (by omega) (by omega) ?_; intro a5 c5 w5 hB5 hw5; have HB5 := Lib.hid hB5; rw [HLK.out]; clear hB5)
      have hsz := hw5.size
      simp only [World.size_alloc] at hsz
      refine ⟨⟨k + 1, w5.heap.size, by omega, by go_num, Lib.hid ?_, by omega, hw5.below (below_al hb _) (by omega)⟩, by simp [intOf]; omega⟩
      rw [HX.out]
      have := HB5.out
      rw [HLK.out] at this
      exact this
    · obtain rfl : k = m := by omega
      have i1 : ¬ (k : Int) < (k : Int) := by omega
      have hs := HB.out
      have HB2 := Lib.hid (show BldI wr w.heap.size wr.heap.size (.slice a k c) (iota k) from ⟨Nat.le_refl _, hs.2.1, fun g hg => by have := hs.2.2 g hg; omega⟩)
      clear hs HB
      go_wp2
      go_ret
      exact ⟨_, rfl, HB2.out, hb⟩

theorem Only.within {g : Nat} {w w' : World} (h : Only g w w') : Within g (g + 1) w w' := ⟨h.os, h.tape, h.output, Nat.le_of_eq h.size.symm, fun k _ hne => h.block k (by omega)⟩
theorem BldI.only {g : Nat} {w w' : World} {lo hi : Nat} {v : Value} {zs : List Int} (ho : Only g w w') (h : BldI w lo hi v zs) (hg : g < lo) : BldI w' lo hi v zs := BldI.past ho.within h (.inl (by omega))

set_option maxRecDepth 100000 in
set_option maxHeartbeats 2000000 in
theorem l27DrawOrder_any (W0 : World) (g : Nat) (sv : Value) (n : Nat) (m : Nat) (hm : m ≤ 200) (w : World) (hD : Src1 W0 g sv n w) :
    Calls Tryz.prog 39 #[.pointer (some ⟨g, 0, none⟩), .int .i64 (m : Int)] w fun e w' => ∃ v zs, e = .returned v ∧ zs.length = m ∧ BldI w' w.heap.size w'.heap.size v zs ∧ Src1 W0 g sv n w' ∧ Within g (g + 1) w w' := by
  have HN := Lib.hid (fun q w h hq => l01Next_any W0 g sv n q w h hq)
  have HID := Lib.hid (fun w => l27Identity_any m (by omega) w)
  have hgl := hD.lt
  have HD := Lib.hid hD
  clear hD
  go_enter Tryz.func39, Tryz.ntmps39
  go_wp2_with fail
  refine (HID.out _).mono ?_
  rintro e w1 ⟨v1, rfl, hB1, hb1⟩
  obtain ⟨a, c, rfl⟩ := hB1.sized
  rw [length_iota] at hB1 ⊢
  have hs1 := hb1.size
  have HB1 := Lib.hid hB1
  have HD1 := Lib.hid (HD.out.by hb1)
  have HW1 : Hid (Within g (g + 1) w w1) := Lib.hid ⟨hb1.os, hb1.tape, hb1.output, hb1.size, fun k hk _ => hb1.block k hk⟩
  have hwr : IntKind.i64.wrap ((m : Int) - 1) = (m : Int) - 1 := by simp [IntKind.wrap, IntKind.bits, IntKind.signed]; omega
  clear hB1 hb1
  go_wp2
  go_loopw [6] (fun i wr => ∃ (z : Int) (zs : List Int), (-1 ≤ z ∧ z < m) ∧ i = .int .i64 z ∧ Hid (zs.length = m) ∧ Hid (BldI wr w.heap.size wr.heap.size (.slice a m c) zs) ∧ Hid (Src1 W0 g sv n wr) ∧ Hid (Within g (g + 1) w wr)) (fun i _ => (intOf i).toNat)
  case atStart => exact ⟨(m : Int) - 1, iota m, by omega, (by first | rfl | rw [hwr] | go_num), Lib.hid (length_iota m), HB1, HD1, HW1⟩
  case round =>
    clear HB1 HD1 HW1
    obtain ⟨z, zs, hz, rfl, HZL, HB, HDr, HWr⟩ := hrel
    by_cases hlt : 0 < z
    · obtain ⟨q, rfl⟩ : ∃ q : Nat, z = q := ⟨z.toNat, by omega⟩
      have hwq : IntKind.i64.wrap ((q : Int) + 1) = (q : Int) + 1 := by simp [IntKind.wrap, IntKind.bits, IntKind.signed]; omega
      go_wp2_with fail
      refine (HN.out _ _ HDr.out (by first | omega | (rw [hwq]; omega))).mono ?_
      rintro e w2 ⟨y, rfl, hy0, hy1, hD2, ho2⟩
      have hyq : y ≤ (q : Int) := by first | omega | (rw [hwq] at hy1; omega)
      obtain ⟨k, rfl⟩ : ∃ k : Nat, y = k := ⟨y.toNat, by omega⟩
      have hB2 := BldI.only ho2 HB.out hgl
      have hs2 := ho2.size
      have hzl := HZL.out
      obtain ⟨G, cap, cs, hv, hG, hBk, hcell⟩ := hB2.blk (by omega)
      rw [hzl] at hv
      obtain ⟨rfl, rfl⟩ : a = some ⟨G, 0, none⟩ ∧ c = cap := by simpa using hv
      obtain ⟨xq, hxq⟩ : ∃ x, zs[q]? = some x := ⟨zs[q]'(by omega), List.getElem?_eq_getElem _⟩
      obtain ⟨xk, hxk⟩ : ∃ x, zs[k]? = some x := ⟨zs[k]'(by omega), List.getElem?_eq_getElem _⟩
      have cq := hcell q xq hxq
      have ck := hcell k xk hxk
      have fG := hBk.free
      have lG := hBk.lt
      have HB2 := Lib.hid hB2
      have HD2 := Lib.hid hD2
      have HO2 := Lib.hid ho2
      have hge : W0.heap.size ≤ G := by
        have := HD.out.2.1.size
        omega
      have hgG : g ≠ G := by omega
      have i1 : (0 : Int) ≤ (q : Int) := by omega
      have i2 : (q : Int) < (m : Int) := by omega
      have i3 : (0 : Int) ≤ (k : Int) := by omega
      have i4 : (k : Int) < (m : Int) := by omega
      have HZL2 := Lib.hid hzl
      clear hv hcell hBk hB2 hD2 ho2 hxq hxk hzl HZL HB HDr
      have h1 := HB2.out.setAt q xk
      have h2 := h1.setAt k xq
      have hW2 : Within g (g + 1) w w2 := HWr.out.on HO2.out.within
      have hWs : ∀ v1 v2, Within g (g + 1) w ((w2.setCell ⟨G, q, none⟩ v1).setCell ⟨G, k, none⟩ v2) := fun v1 v2 => (hW2.new G q v1 (by omega)).new G k v2 (by omega)
      have HFIN := Lib.hid (show BldI ((w2.setCell ⟨G, q, none⟩ (.int .i64 xk)).setCell ⟨G, k, none⟩ (.int .i64 xq)) w.heap.size ((w2.setCell ⟨G, q, none⟩ (.int .i64 xk)).setCell ⟨G, k, none⟩ (.int .i64 xq)).heap.size (.slice (some ⟨G, 0, none⟩) m c) ((zs.set q xk).set k xq) from ⟨Nat.le_refl _, h2.2.1, fun g' hg' => by have := h2.2.2 g' hg'; simp at this ⊢; omega⟩)
      have HWS := Lib.hid (hWs (.int .i64 xk) (.int .i64 xq))
      have HDF := Lib.hid ((HD2.out.apart (o := q) (v := .int .i64 xk) hgG hge).apart (o := k) (v := .int .i64 xq) hgG hge)
      clear h1 h2 hW2 hWs
      by_cases hqk : q = k
      · subst hqk
        obtain rfl : xq = xk := by rw [cq] at ck; simpa using ck
        go_wp2
        exact ⟨⟨(q : Int) - 1, (zs.set q xq).set q xq, by omega, by go_num, Lib.hid (by simp [HZL2.out]), Lib.hid HFIN.out, Lib.hid HDF.out, Lib.hid HWS.out⟩, by simp [intOf]; omega⟩
      · have hkq : ¬ k = q := fun e => hqk e.symm
        go_wp2
        exact ⟨⟨(q : Int) - 1, (zs.set q xk).set k xq, by omega, by go_num, Lib.hid (by simp [HZL2.out]), Lib.hid HFIN.out, Lib.hid HDF.out, Lib.hid HWS.out⟩, by simp [intOf]; omega⟩
    · have i1 : ¬ (0 : Int) < z := hlt
      go_wp2
      go_ret
      first | exact ⟨_, zs, rfl, HZL.out, HB.out, HDr.out, HWr.out⟩ | exact ⟨_, rfl, zs, HZL.out, HB.out, HDr.out, HWr.out⟩
end Go.Proofs.YtlkcdelihdkgbaaGreat

/- The draw of two orders, and of a matching. -/
namespace Go.Proofs.YtlkcdelihdkgbaaGreat
open Go.RowKit
set_option linter.unusedVariables false
set_option linter.unusedSimpArgs false

theorem Src1.withinO {W0 w w' : World} {g n lo hi : Nat} {sv : Value} (h : Src1 W0 g sv n w) (hw : Within lo hi w w') (h1 : W0.heap.size ≤ lo) (h2 : g < lo ∨ hi ≤ g) : Src1 W0 g sv n w' := by
  have hl := h.lt
  obtain ⟨a1, a2, a3, a4, i, x, a5, a6, a7, a8⟩ := h
  exact ⟨a1, hw.below a2 h1, a3, a4, i, x, a5, a6, a7, (hw.block g hl h2).trans a8⟩

theorem below_new (w : World) (o : Obj) : Below w.heap.size w (w.alloc o) := (Below.refl _ w).alloc (Nat.le_refl _) o
theorem Within.newer {a w w' : World} {lo hi lo' hi' : Nat} (h : Within lo hi a w) (h' : Within lo' hi' w w') (hl : a.heap.size ≤ lo') : Within lo hi a w' :=
  ⟨h'.os.trans h.os, h'.tape.trans h.tape, h'.output.trans h.output, Nat.le_trans h.size h'.size, fun k hk hne => (h'.block k (Nat.lt_of_lt_of_le hk h.size) (.inl (by omega))).trans (h.block k hk hne)⟩

theorem Blk.differ2 {w : World} {g : Nat} {a b : Array Value} {T1 T2 : TypeId} (h1 : Blk w g a T1) (h2 : Blk w g b T2) : T1 = T2 := by
  have h := h1.symm.trans h2
  injection h with h
  injection h
theorem OwnR.offM {w : World} {lo hi T o : Nat} {cs : Array Value} {sv v : Value} {zs : List Int} (h : OwnR w lo hi sv zs) (hT : Blk w T cs 30) : OwnR (w.setCell ⟨T, o, none⟩ v) lo hi sv zs := by
  rcases h with h | ⟨g, cap, c2, h1, h2, h3, h4, h5, h6, h7⟩
  · exact .inl h
  · exact .inr ⟨g, cap, c2, h1, h2, h3, h4, h5, h6.apart T o v (fun e => by subst e; exact absurd (h6.differ2 hT) (by decide)), h7⟩
theorem OwnR.threeM {w : World} {lo hi M R : Nat} {cM cR : Array Value} {sv : Value} {zs : List Int} (h : OwnR w lo hi sv zs) (kM : Blk w M cM 30) (kR : Blk w R cR 30) (o : Nat) (y y0 y1 : Value) :
    OwnR (((w.setCell ⟨M, o, none⟩ y).setCell ⟨R, 0, none⟩ y0).setCell ⟨R, 1, none⟩ y1) lo hi sv zs := by
  have h1 := h.offM (o := o) (v := y) kM
  by_cases e : R = M
  · subst e
    exact (h1.offM (kM.set o y)).offM ((kM.set o y).set 0 y0)
  · exact (h1.offM (kR.apart M o y e)).offM ((kR.apart M o y e).set 0 y0)
/-- A matching all of whose memory lies from m on. -/
def MaO (m : Nat) (w : World) (v : Value) (z : List Int × List Int) : Prop := ∃ s1 s2, v = .agg #[s1, s2] ∧ (∃ lo hi, m ≤ lo ∧ OwnR w lo hi s1 z.1) ∧ ∃ lo hi, m ≤ lo ∧ OwnR w lo hi s2 z.2
theorem MaO.ma {m : Nat} {w : World} {v : Value} {z : List Int × List Int} (h : MaO m w v z) : MaV w v z := by
  obtain ⟨s1, s2, e, ⟨_, _, _, h1⟩, _, _, _, h2⟩ := h
  exact ⟨s1, s2, e, h1.sl, h2.sl⟩
theorem MaO.by {m : Nat} {w w' : World} {v : Value} {z : List Int × List Int} (hb : Below w.heap.size w w') (h : MaO m w v z) : MaO m w' v z := by
  obtain ⟨s1, s2, e, ⟨_, _, a1, h1⟩, _, _, a2, h2⟩ := h
  exact ⟨s1, s2, e, ⟨_, _, a1, h1.by hb⟩, _, _, a2, h2.by hb⟩
theorem MaO.past {m lo hi : Nat} {w w' : World} {v : Value} {z : List Int × List Int} (hb : Within lo hi w w') (h : MaO m w v z) (hm : hi ≤ m) : MaO m w' v z := by
  obtain ⟨s1, s2, e, ⟨_, _, a1, h1⟩, _, _, a2, h2⟩ := h
  exact ⟨s1, s2, e, ⟨_, _, a1, h1.past hb (.inr (by omega))⟩, _, _, a2, h2.past hb (.inr (by omega))⟩
theorem MaO.low {m m' : Nat} {w : World} {v : Value} {z : List Int × List Int} (h : MaO m w v z) (hm : m' ≤ m) : MaO m' w v z := by
  obtain ⟨s1, s2, e, ⟨_, _, a1, h1⟩, _, _, a2, h2⟩ := h
  exact ⟨s1, s2, e, ⟨_, _, by omega, h1⟩, _, _, by omega, h2⟩
theorem MaO.offM {m T o : Nat} {cs : Array Value} {w : World} {v u : Value} {z : List Int × List Int} (h : MaO m w v z) (hT : Blk w T cs 30) : MaO m (w.setCell ⟨T, o, none⟩ u) v z := by
  obtain ⟨s1, s2, e, ⟨_, _, a1, h1⟩, _, _, a2, h2⟩ := h
  exact ⟨s1, s2, e, ⟨_, _, a1, h1.offM hT⟩, _, _, a2, h2.offM hT⟩

set_option maxRecDepth 100000 in
set_option maxHeartbeats 2000000 in
theorem l30DrawOrders_any (W0 : World) (g : Nat) (sv : Value) (n : Nat) (p q : Nat) (hp : p ≤ 100) (hq : q ≤ 100) (w : World) (hD : Src1 W0 g sv n w) :
    Calls Tryz.prog 19 #[.pointer (some ⟨g, 0, none⟩), .int .i64 (p : Int), .int .i64 (q : Int)] w fun e w' => ∃ v, e = .returned v ∧ ∃ z, MaO w.heap.size w' v z ∧ z.1.length ≤ 300 ∧ z.2.length ≤ 300 ∧ Src1 W0 g sv n w' ∧ Within g (g + 1) w w' := by
  have HN := Lib.hid (fun m w h hm => l01Next_any W0 g sv n m w h hm)
  have HO := Lib.hid (fun m hm w h => l27DrawOrder_any W0 g sv n m hm w h)
  have hgl := hD.lt
  have hg0 := hD.1
  have HD0 : Hid (Src1 W0 g sv n (w.alloc (.cells #[.slice none 0 0, .slice none 0 0] 30))) := Lib.hid (hD.by ((Below.refl _ w).alloc (Nat.le_refl _) _))
  have kR0 : Blk (w.alloc (.cells #[.slice none 0 0, .slice none 0 0] 30)) w.heap.size #[.slice none 0 0, .slice none 0 0] 30 := Blk.new _ rfl
  have HW0 : Hid (Within g (g + 1) w (w.alloc (.cells #[.slice none 0 0, .slice none 0 0] 30))) := Lib.hid ((Within.refl _ _ _).alloc _)
  have hs0 : (w.alloc (.cells #[.slice none 0 0, .slice none 0 0] 30)).heap.size = w.heap.size + 1 := by simp
  clear hD
  go_enter Tryz.func19, Tryz.ntmps19
  go_wp2_with fail
  refine (HO.out p (by omega) _ HD0.out).mono ?_
  rintro e w1 ⟨v1, z1, rfl, hl1, hB1, hD1, hW1⟩
  obtain ⟨a1, c1, rfl⟩ := hB1.sized
  rw [hl1] at hB1 ⊢
  have HB1 := Lib.hid hB1
  have HD1 := Lib.hid hD1
  have HL1 := Lib.hid hl1
  have hs1 := hW1.size
  have kR1 := hW1.blk kR0 (by omega)
  have HW1 := Lib.hid (HW0.out.on hW1)
  clear hB1 hD1 hl1 hW1 kR0 HW0 HD0
  go_wp2_with fail
  refine (HO.out q (by omega) _ HD1.out).mono ?_
  rintro e w2 ⟨v2, z2, rfl, hl2, hB2, hD2, hW2⟩
  obtain ⟨a2, c2, rfl⟩ := hB2.sized
  rw [hl2] at hB2 ⊢
  have HB2 := Lib.hid hB2
  have HL2 := Lib.hid hl2
  have hs2 := hW2.size
  have kR2 := hW2.blk kR1 (by omega)
  have HB1' := Lib.hid (HB1.out.past hW2 (.inl (by omega)))
  have HW2 := Lib.hid (HW1.out.on hW2)
  have HD2 := Lib.hid hD2
  clear hB2 hD2 hl2 hW2 kR1 HW1 HD1 HB1
  obtain ⟨M, hM⟩ : ∃ M, w2.heap.size = M := ⟨_, rfl⟩
  obtain ⟨w3, hw3⟩ : ∃ z, z = w2.alloc (.cells #[.slice a1 p c1, .slice a2 q c2] 30) := ⟨_, rfl⟩
  have hal : Below w2.heap.size w2 w3 := by rw [hw3]; exact (Below.refl _ w2).alloc (Nat.le_refl _) _
  have kM3 : Blk w3 M #[.slice a1 p c1, .slice a2 q c2] 30 := by rw [hw3]; exact Blk.new _ hM.symm
  have hs3 : w3.heap.size = M + 1 := by rw [hw3]; simp [hM]
  have kR3 := Blk.by hal kR2
  have HD3 := Lib.hid (HD2.out.by hal)
  have HB13 := Lib.hid (HB1'.out.by hal)
  have HB23 := Lib.hid (HB2.out.by hal)
  have HW3 : Hid (Within g (g + 1) w w3) := Lib.hid (HW2.out.on ⟨hal.os, hal.tape, hal.output, hal.size, fun k hk _ => hal.block k hk⟩)
  simp only [hs0] at HB13
  go_wp2_with fail
  (try rw [← hw3])
  (try rw [hM])
  clear hw3 hal kR2 HD2 HB1' HB2 HW2
  refine (HN.out 20 _ HD3.out (by omega)).mono ?_
  rintro e w4 ⟨y, rfl, hy0, hy1, hD4, ho4⟩
  have hs4 := ho4.size
  have kM4 : Blk w4 M _ 30 := ho4.blk kM3 (by omega)
  have kR4 : Blk w4 w.heap.size _ 30 := ho4.blk kR3 (by omega)
  have HB14 := Lib.hid (HB13.out.only ho4 (by omega))
  have HB24 := Lib.hid (HB23.out.only ho4 (by omega))
  have HW4 := Lib.hid (HW3.out.on ho4.within)
  have HD4 := Lib.hid hD4
  clear hD4 ho4 kM3 kR3 HB13 HB23 HW3 HD3
  have qM := kM4.cell
  have fM := kM4.free
  have lM := kM4.lt
  have qR := kR4.cell
  have fR := kR4.free
  have lR := kR4.lt
  have hge0 : W0.heap.size ≤ w.heap.size := by omega
  have hll1 := HL1.out
  have hll2 := HL2.out
  have HLL := Lib.hid (And.intro hll1 hll2)
  clear hll1 hll2
  by_cases y0 : y = 0
  · have e0 : (y == 0) = true := by simpa using y0
    clear y0
    go_upto_region 4 with fail
    have hS : (fun w' : World => w'.cell? ⟨M, 0, none⟩ = some (.slice a1 p c1)) { w4 with drawn := w4.drawn + 1 } := qM 0
    refine wp_region_any (by kernel_rfl) (wpAny_of_E (S := fun w' => w'.cell? ⟨M, 0, none⟩ = some (.slice a1 p c1)) (l := 7) _ _ _ _ ?_)
    change wpAnyE _ _ _ _ _ _ _ _ _ w4.drew
    refine wpAnyE_take (i := 0) (v := ?_) rfl (by kernel_rfl) (fun _ _ _ h => h) (Or.inl ⟨by rfl, ?_⟩) hS ?_
    rotate_left
    · intro w hSw; (try dsimp only at hSw); go_simp; (try with_reducible rfl)
    try simp only [Act.put, List.setIfInBounds_toArray, List.set_cons_zero, List.set_cons_succ]
    refine wpAnyE_take (i := 1) (v := ?_) rfl (by kernel_rfl) (fun _ _ _ h => h) (Or.inl ⟨by rfl, ?_⟩) hS ?_
    rotate_left
    · intro w hSw; (try dsimp only at hSw); go_simp; (try with_reducible rfl)
    try simp only [Act.put, List.setIfInBounds_toArray, List.set_cons_zero, List.set_cons_succ]
    refine wpAnyE_take (i := 2) (v := ?_) rfl (by kernel_rfl) (fun _ _ _ h => h) (Or.inl ⟨by rfl, ?_⟩) hS ?_
    rotate_left
    · intro w hSw; (try dsimp only at hSw); go_simp; (try with_reducible rfl)
    try simp only [Act.put, List.setIfInBounds_toArray, List.set_cons_zero, List.set_cons_succ]
    refine wpAnyE_one (k := 3) (by kernel_rfl) rfl (fun K hK => ?_)
    go_simp
    go_at_call 18
    refine (HN.out 3 _ (HD4.out.by (Below.refl _ w4).drew) (by omega)).mono ?_
    rintro e w5 ⟨x, rfl, hx0, hx1, hD5, ho5⟩
    have hs5 := ho5.size
    simp only [World.size_drew] at hs5
    have kM5 : Blk w5 M _ 30 := ho5.blk (kM4.drew) (by omega)
    have kR5 : Blk w5 w.heap.size _ 30 := ho5.blk (kR4.drew) (by omega)
    have HB15 := Lib.hid ((HB14.out.by (Below.refl _ w4).drew).only ho5 (by omega))
    have HB25 := Lib.hid ((HB24.out.by (Below.refl _ w4).drew).only ho5 (by omega))
    have HD5 := Lib.hid hD5
    have HW5 : Hid (Within g (g + 1) w w5) := Lib.hid ((HW4.out.drewN 1).on ho5.within)
    have qM5 := kM5.cell
    clear hD5 ho5
    go_simp
    refine hK.out _ _ (fun _ => qM5 0) ?_
    try simp only [Act.put, List.setIfInBounds_toArray, List.set_cons_zero, List.set_cons_succ]
    refine wpAnyE_one (k := 4) (by kernel_rfl) rfl (fun K hK => ?_)
    go_simp
    have hal : Below w5.heap.size w5 (w5.alloc (.cells #[.int .i64 x] 2)) := (Below.refl _ w5).alloc (Nat.le_refl _) _
    refine hK.out _ _ (fun _ => cell_by' hal (qM5 0)) ?_
    try simp only [Act.put, List.setIfInBounds_toArray, List.set_cons_zero, List.set_cons_succ]
    refine wpAnyE_one (k := 5) (by kernel_rfl) rfl (fun K hK => ?_)
    obtain ⟨hla, hlb⟩ := HLL.out
    refine step_pushI (by rfl) _ _ (by rfl) _ _ (.slice a1 p c1) z1 [x] (by rfl) (HB15.out.by hal) _ 1 #[.int .i64 x] (by rfl) rfl (by omega) (Blk.new _ (by omega)) rfl (by omega) (by omega) ?_
    intro a6 c6 w6 hB6 hw6
    rw [hla] at hB6 ⊢
    have hs6 := hw6.size
    simp only [World.size_alloc] at hs6
    have kM6 : Blk w6 M _ 30 := hw6.blk (kM5.past _) (by omega)
    have kR6 : Blk w6 w.heap.size _ 30 := hw6.blk (kR5.past _) (by omega)
    have HB6 := Lib.hid hB6
    have HB26 := Lib.hid ((HB25.out.by hal).past hw6 (.inl (by omega)))
    have HD6 := Lib.hid ((HD5.out.by hal).withinO hw6 (by omega) (.inl (by omega)))
    have HW6 : Hid (Within g (g + 1) w w6) := Lib.hid ((HW5.out.alloc _).newer hw6 (by omega))
    have qM6 := kM6.cell
    have fM6 := kM6.free
    have lM6 := kM6.lt
    have fR6 := kR6.free
    have lR6 := kR6.lt
    have qR6 := kR6.cell
    clear hB6 hw6 hal
    refine hK.out _ _ (fun _ => qM6 0) ?_
    try simp only [Act.put, List.setIfInBounds_toArray, List.set_cons_zero, List.set_cons_succ]
    refine wpAnyE_one (k := 6) (by kernel_rfl) rfl (fun K hK => ?_)
    go_simp
    refine hK.out _ _ (fun _ => qM6 0) ?_
    try simp only [Act.put, List.setIfInBounds_toArray, List.set_cons_zero, List.set_cons_succ]
    refine wpAnyE_one (k := 7) (by kernel_rfl) rfl (fun K hK => ?_)
    go_simp
    refine hK.out _ _ (fun h => absurd rfl h) ?_
    refine wpAnyE_done (by kernel_rfl) ?_ _
    clear hS
    have hMR : ¬ M = w.heap.size := by omega
    have hRM : ¬ w.heap.size = M := by omega
    go_wp2
    refine bodyPost_ret (v := .agg #[.slice a6 (p + 1) c6, .slice a2 q c2]) (by simp [results, Tryz.results19, go_sem, *]) rfl ⟨_, rfl, (z1 ++ [x], z2), ⟨_, _, rfl, ?_, ?_⟩, ?_, ?_, ?_, ?_⟩
    · exact ⟨_, _, by omega, OwnR.threeM (HB6.out).own kM6 kR6 _ _ _ _⟩
    · exact ⟨_, _, by omega, OwnR.threeM (HB26.out).own kM6 kR6 _ _ _ _⟩
    · simp; omega
    · simp; omega
    · exact (((HD6.out).apart (by omega) (by omega)).apart (by omega) (by omega)).apart (by omega) (by omega)
    · exact (((HW6.out).newer (Within.off _) (by omega)).newer (Within.off _) (by omega)).newer (Within.off _) (by omega)
  · have e0 : (y == 0) = false := by simpa using y0
    by_cases y1 : y = 1
    · have e1 : (y == 1) = true := by simpa using y1
      clear y0 y1
      have hMR : ¬ M = w.heap.size := by omega
      have hRM : ¬ w.heap.size = M := by omega
      obtain ⟨hla, hlb⟩ := HLL.out
      go_wp2_with (refine list_pushI (by rfl) _ _ (by rfl) _ _ (.slice a2 q c2) z2 [-1] (by rfl) (HB24.out.by (by ((repeat (first | (with_reducible exact Below.refl _ _) | (with_reducible refine below_drewN ?_ _) | (with_reducible refine Below.drew ?_) | (with_reducible refine below_al ?_ _) | (with_reducible refine below_on (by assumption) ?_) | ((with_reducible refine Below.setCell ?_ ?_ _); rotate_left; focus (first | omega | (simp; done) | (simp; omega))) | (with_reducible assumption))); done))) _ 1 #[.int .i64 (-1)] (by rfl) (by rfl) (by omega) (Blk.new _ (by omega)) (by rfl) (by omega) (by omega) ?_; intro a6 c6 w6 hB6 hw6; rw [hlb] at hB6 ⊢; have hs6 := hw6.size; simp only [World.size_alloc] at hs6; have kM6 : Blk w6 M _ 30 := hw6.blk (kM4.past _) (by omega); have kR6 : Blk w6 w.heap.size _ 30 := hw6.blk (kR4.past _) (by omega); have HB6 := Lib.hid hB6; have HB16 := Lib.hid ((HB14.out.by (below_new w4 _)).past hw6 (.inr (by omega))); have HD6 := Lib.hid ((HD4.out.by (below_new w4 _)).withinO hw6 (by omega) (.inl (by omega))); have HW6 : Hid (Within g (g + 1) w w6) := Lib.hid ((HW4.out.alloc _).newer hw6 (by omega)); have qM6 := kM6.cell; have fM6 := kM6.free; have lM6 := kM6.lt; have fR6 := kR6.free; have lR6 := kR6.lt; have qR6 := kR6.cell; clear hB6 hw6)
      refine bodyPost_ret (v := .agg #[.slice a1 p c1, .slice a6 (q + 1) c6]) (by simp [results, Tryz.results19, go_sem, *]) rfl ⟨_, rfl, (z1, z2 ++ [-1]), ⟨_, _, rfl, ?_, ?_⟩, ?_, ?_, ?_, ?_⟩
      · exact ⟨_, _, by omega, OwnR.threeM (HB16.out).own kM6 kR6 _ _ _ _⟩
      · exact ⟨_, _, by omega, OwnR.threeM (HB6.out).own kM6 kR6 _ _ _ _⟩
      · simp; omega
      · simp; omega
      · exact (((HD6.out).apart (by omega) (by omega)).apart (by omega) (by omega)).apart (by omega) (by omega)
      · exact (((HW6.out).newer (Within.off _) (by omega)).newer (Within.off _) (by omega)).newer (Within.off _) (by omega)
    · have e1 : (y == 1) = false := by simpa using y1
      by_cases y2 : y = 2
      · have e2 : (y == 2) = true := by simpa using y2
        clear y0 y1 y2
        have hMR : ¬ M = w.heap.size := by omega
        have hRM : ¬ w.heap.size = M := by omega
        obtain ⟨hla, hlb⟩ := HLL.out
        go_wp2_with fail
        refine (HN.out 2 _ HD4.out (by omega)).mono ?_
        rintro e w5 ⟨x, rfl, hx0, hx1, hD5, ho5⟩
        obtain ⟨k, rfl⟩ : ∃ k : Nat, x = k := ⟨x.toNat, by omega⟩
        have hs5 := ho5.size
        have kM5 : Blk w5 M _ 30 := ho5.blk kM4 (by omega)
        have kR5 : Blk w5 w.heap.size _ 30 := ho5.blk kR4 (by omega)
        have HB25 := Lib.hid (HB24.out.only ho5 (by omega))
        have HD5 := Lib.hid hD5
        have HW5 : Hid (Within g (g + 1) w w5) := Lib.hid (HW4.out.on ho5.within)
        have hwk : IntKind.i64.wrap (24 + (k : Int)) = ((24 + k : Nat) : Int) := by simp [IntKind.wrap, IntKind.bits, IntKind.signed]; omega
        clear hD5 ho5
        go_wp2_with fail
        (try rw [hwk])
        (try rw [show (24 : Int) + (k : Int) = ((24 + k : Nat) : Int) by omega])
        refine (HO.out (24 + k) (by omega) _ HD5.out).mono ?_
        rintro e w6 ⟨v6, z6, rfl, hl6, hB6, hD6, hW6⟩
        obtain ⟨a6, c6, rfl⟩ := hB6.sized
        have hs6 := hW6.size
        have kM6 : Blk w6 M _ 30 := hW6.blk kM5 (by omega)
        have kR6 : Blk w6 w.heap.size _ 30 := hW6.blk kR5 (by omega)
        have HB6 := Lib.hid hB6
        have HB26 := Lib.hid (HB25.out.past hW6 (.inl (by omega)))
        have HD6 := Lib.hid hD6
        have HW6 : Hid (Within g (g + 1) w w6) := Lib.hid (HW5.out.on hW6)
        have HL6 := Lib.hid hl6
        have qM6 := kM6.cell
        have fM6 := kM6.free
        have lM6 := kM6.lt
        have fR6 := kR6.free
        have lR6 := kR6.lt
        have qR6 := kR6.cell
        clear hB6 hD6 hW6 hl6
        go_wp2
        have hl6 := HL6.out
        refine bodyPost_ret (v := .agg #[.slice a6 z6.length c6, .slice a2 q c2]) (by simp [results, Tryz.results19, go_sem, *]) rfl ⟨_, rfl, (z6, z2), ⟨_, _, rfl, ?_, ?_⟩, ?_, ?_, ?_, ?_⟩
        · exact ⟨_, _, by omega, OwnR.threeM (HB6.out).own kM6 kR6 _ _ _ _⟩
        · exact ⟨_, _, by omega, OwnR.threeM (HB26.out).own kM6 kR6 _ _ _ _⟩
        · simp; omega
        · simp; omega
        · exact (((HD6.out).apart (by omega) (by omega)).apart (by omega) (by omega)).apart (by omega) (by omega)
        · exact (((HW6.out).newer (Within.off _) (by omega)).newer (Within.off _) (by omega)).newer (Within.off _) (by omega)
      · have e2 : (y == 2) = false := by simpa using y2
        clear y0 y1 y2
        obtain ⟨hla, hlb⟩ := HLL.out
        go_wp2
        refine bodyPost_ret (v := .agg #[.slice a1 p c1, .slice a2 q c2]) (by simp [results, Tryz.results19, go_sem, *]) rfl ⟨_, rfl, (z1, z2), ⟨_, _, rfl, ?_, ?_⟩, ?_, ?_, ?_, ?_⟩
        · exact ⟨_, _, by omega, (BldI.past (Within.off _) (BldI.past (Within.off _) (HB14.out) (by omega)) (by omega)).own⟩
        · exact ⟨_, _, by omega, (BldI.past (Within.off _) (BldI.past (Within.off _) (HB24.out) (by omega)) (by omega)).own⟩
        · simp; omega
        · simp; omega
        · exact ((HD4.out).apart (by omega) (by omega)).apart (by omega) (by omega)
        · exact ((HW4.out).newer (Within.off _) (by omega)).newer (Within.off _) (by omega)
end Go.Proofs.YtlkcdelihdkgbaaGreat

/- The draw of a matching for a netlist. -/
namespace Go.Proofs.YtlkcdelihdkgbaaGreat
open Go.RowKit
set_option linter.unusedVariables false
set_option linter.unusedSimpArgs false

theorem OwnR.wideM {w : World} {lo hi lo' hi' : Nat} {v : Value} {zs : List Int} (h : OwnR w lo hi v zs) (h1 : lo' ≤ lo) (h2 : hi ≤ hi') : OwnR w lo' hi' v zs := by
  rcases h with h | ⟨g, cap, cs, e1, e2, e3, e4⟩
  · exact .inl h
  · exact .inr ⟨g, cap, cs, e1, by omega, by omega, e4⟩
set_option maxRecDepth 100000 in
set_option maxHeartbeats 8000000 in
theorem l30DrawMatching_any (W0 : World) (g : Nat) (sv : Value) (n : Nat) (nets : Int) (a1 a2 : Option Addr) (L L2 c1 c2 : Nat) (hn0 : -1000 ≤ nets) (hn1 : nets ≤ 200) (hL : L ≤ 200) (w : World) (hD : Src1 W0 g sv n w) :
    Calls Tryz.prog 17 #[.pointer (some ⟨g, 0, none⟩), .agg #[.int .i64 nets, .slice a1 L c1, .slice a2 L2 c2]] w fun e w' => ∃ v1 v2 z1 z2, e = .returned (.agg #[v1, v2]) ∧ z1.length ≤ 200 ∧ z2.length ≤ 200 ∧ OwnR w' w.heap.size w'.heap.size v1 z1 ∧ OwnR w' w.heap.size w'.heap.size v2 z2 ∧ Src1 W0 g sv n w' ∧ Within g (g + 1) w w' := by
  have HO := Lib.hid (fun m hm w h => l27DrawOrder_any W0 g sv n m hm w h)
  have hgl := hD.lt
  obtain ⟨m, hm⟩ : ∃ m : Nat, m = nets.toNat := ⟨_, rfl⟩
  have hm2 : m ≤ 200 := by omega
  have kB : Blk ((w.alloc (.cells #[.int .i64 nets, .slice a1 L c1, .slice a2 L2 c2] 27)).alloc (.cells #[.slice none 0 0, .slice none 0 0] 30)) w.heap.size #[.int .i64 nets, .slice a1 L c1, .slice a2 L2 c2] 27 := (Blk.new _ rfl).past _
  have kR : Blk ((w.alloc (.cells #[.int .i64 nets, .slice a1 L c1, .slice a2 L2 c2] 27)).alloc (.cells #[.slice none 0 0, .slice none 0 0] 30)) (w.heap.size + 1) #[.slice none 0 0, .slice none 0 0] 30 := Blk.new _ (by simp)
  have hW0 : Within g (g + 1) w ((w.alloc (.cells #[.int .i64 nets, .slice a1 L c1, .slice a2 L2 c2] 27)).alloc (.cells #[.slice none 0 0, .slice none 0 0] 30)) := ((Within.refl _ _ _).alloc _).alloc _
  have HD0 := Lib.hid ((hD.by ((Below.refl _ _).alloc (Nat.le_refl _) (.cells #[.int .i64 nets, .slice a1 L c1, .slice a2 L2 c2] 27))).by ((Below.refl _ _).alloc (Nat.le_refl _) (.cells #[.slice none 0 0, .slice none 0 0] 30)))
  have hs0 : ((w.alloc (.cells #[.int .i64 nets, .slice a1 L c1, .slice a2 L2 c2] 27)).alloc (.cells #[.slice none 0 0, .slice none 0 0] 30)).heap.size = w.heap.size + 2 := by simp
  have HM := Lib.hid hm
  have hg0 : W0.heap.size ≤ g := hD.1
  clear hD
  go_enter Tryz.func17, Tryz.ntmps17
  go_upto_region 1 with fail
  generalize (w.alloc (.cells #[.int .i64 nets, .slice a1 L c1, .slice a2 L2 c2] 27)).alloc (.cells #[.slice none 0 0, .slice none 0 0] 30) = wA at *
  have hsA : w.heap.size + 2 ≤ wA.heap.size := by omega
  clear hs0 hm
  have hS : (fun w' : World => Blk w' w.heap.size #[.int .i64 nets, .slice a1 L c1, .slice a2 L2 c2] 27) { wA with drawn := wA.drawn + 1 } := kB.drew
  refine wp_region_any (by kernel_rfl) (wpAny_of_E (S := fun w' : World => Blk w' w.heap.size #[.int .i64 nets, .slice a1 L c1, .slice a2 L2 c2] 27) (l := 11) _ _ _ _ ?_)
  change wpAnyE _ _ _ _ _ _ _ _ _ wA.drew
  refine wpAnyE_takeL (i := 0) (v := ?_) rfl (by kernel_rfl) (fun _ _ _ h => h) (Or.inl ⟨by rfl, ?_⟩) hS ?_
  rotate_left
  · intro w hSw; (try dsimp only at hSw); have hc0 := hSw.cell 0; have hc1 := hSw.cell 1; have hl := hSw.lt; clear hSw; go_simp; (try with_reducible rfl)
  try simp only [Act.put, List.setIfInBounds_toArray, List.set_cons_zero, List.set_cons_succ]
  refine wpAnyE_takeL (i := 1) (v := ?_) rfl (by kernel_rfl) (fun _ _ _ h => h) (Or.inl ⟨by rfl, ?_⟩) hS ?_
  rotate_left
  · intro w hSw; (try dsimp only at hSw); have hc0 := hSw.cell 0; have hc1 := hSw.cell 1; have hl := hSw.lt; clear hSw; go_simp; (try with_reducible rfl)
  try simp only [Act.put, List.setIfInBounds_toArray, List.set_cons_zero, List.set_cons_succ]
  refine wpAnyE_takeL (i := 2) (v := ?_) rfl (by kernel_rfl) (fun _ _ _ h => h) (Or.inl ⟨by rfl, ?_⟩) hS ?_
  rotate_left
  · intro w hSw; (try dsimp only at hSw); have hc0 := hSw.cell 0; have hc1 := hSw.cell 1; have hl := hSw.lt; clear hSw; go_simp; (try with_reducible rfl)
  try simp only [Act.put, List.setIfInBounds_toArray, List.set_cons_zero, List.set_cons_succ]
  refine wpAnyE_takeL (i := 3) (v := .int .i64 (m : Int)) rfl (by kernel_rfl) (fun _ _ _ h => h) (Or.inl ⟨by rfl, ?_⟩) hS ?_
  · intro w hSw
    have hm := HM.out
    have hmm : (m : Int) = max 0 nets := by omega
    go_simp
    split <;> omega
  try simp only [Act.put, List.setIfInBounds_toArray, List.set_cons_zero, List.set_cons_succ]
  refine wpAnyE_takeL (i := 5) (v := ?_) rfl (by kernel_rfl) (fun _ _ _ h => h) (Or.inl ⟨by rfl, ?_⟩) hS ?_
  rotate_left
  · intro w hSw; (try dsimp only at hSw); have hc0 := hSw.cell 0; have hc1 := hSw.cell 1; have hl := hSw.lt; clear hSw; go_simp; (try with_reducible rfl)
  try simp only [Act.put, List.setIfInBounds_toArray, List.set_cons_zero, List.set_cons_succ]
  refine wpAnyE_takeL (i := 6) (v := ?_) rfl (by kernel_rfl) (fun _ _ _ h => h) (Or.inl ⟨by rfl, ?_⟩) hS ?_
  rotate_left
  · intro w hSw; (try dsimp only at hSw); have hc0 := hSw.cell 0; have hc1 := hSw.cell 1; have hl := hSw.lt; clear hSw; go_simp; (try with_reducible rfl)
  try simp only [Act.put, List.setIfInBounds_toArray, List.set_cons_zero, List.set_cons_succ]
  refine wpAnyE_takeL (i := 7) (v := ?_) rfl (by kernel_rfl) (fun _ _ _ h => h) (Or.inl ⟨by rfl, ?_⟩) hS ?_
  rotate_left
  · intro w hSw; (try dsimp only at hSw); have hc0 := hSw.cell 0; have hc1 := hSw.cell 1; have hl := hSw.lt; clear hSw; go_simp; (try with_reducible rfl)
  try simp only [Act.put, List.setIfInBounds_toArray, List.set_cons_zero, List.set_cons_succ]
  refine wpAnyE_takeL (i := 8) (v := ?_) rfl (by kernel_rfl) (fun _ _ _ h => h) (Or.inl ⟨by rfl, ?_⟩) hS ?_
  rotate_left
  · intro w hSw; (try dsimp only at hSw); have hc0 := hSw.cell 0; have hc1 := hSw.cell 1; have hl := hSw.lt; clear hSw; go_simp; (try with_reducible rfl)
  try simp only [Act.put, List.setIfInBounds_toArray, List.set_cons_zero, List.set_cons_succ]
  refine wpAnyE_oneL (k := 4) (by kernel_rfl) rfl (fun K hK => ?_)
  go_simp
  go_at_call 39
  refine (HO.out m hm2 _ (HD0.out.by (below_of_drewN wA 1))).mono ?_
  rintro e w1 ⟨v1, z1, rfl, hl1, hB1, hD1, hW1⟩
  obtain ⟨b1, d1, rfl⟩ := hB1.sized
  have kB1 : Blk w1 w.heap.size _ 27 := hW1.blk kB.drew (by omega)
  have kR1 : Blk w1 (w.heap.size + 1) _ 30 := hW1.blk kR.drew (by omega)
  have HB1 := Lib.hid (show BldI w1 wA.heap.size w1.heap.size _ _ from hB1)
  have HD1 := Lib.hid hD1
  have HW1 := Lib.hid ((hW0.drewN 1).on hW1)
  have HL1 := Lib.hid hl1
  have hs1 : wA.heap.size ≤ w1.heap.size := hW1.size
  clear hB1 hD1 hl1 hW1 kB kR HD0 hW0
  refine hK.out _ _ (fun _ => kB1) ?_
  try simp only [Act.put, List.setIfInBounds_toArray, List.set_cons_zero, List.set_cons_succ]
  refine wpAnyE_oneL (k := 9) (by kernel_rfl) rfl (fun K hK => ?_)
  go_simp
  go_at_call 39
  refine (HO.out L hL _ HD1.out).mono ?_
  rintro e w2 ⟨v2, z2, rfl, hl2, hB2, hD2, hW2⟩
  obtain ⟨b2, d2, rfl⟩ := hB2.sized
  have kB2 : Blk w2 w.heap.size _ 27 := hW2.blk kB1 (by omega)
  have kR2 : Blk w2 (w.heap.size + 1) _ 30 := hW2.blk kR1 (by omega)
  have HO1 := Lib.hid (HB1.out.past hW2 (.inl (by omega))).own
  have HO2 := Lib.hid hB2.own
  have HD2 := Lib.hid hD2
  have HW2 := Lib.hid (HW1.out.on hW2)
  have HL2 := Lib.hid hl2
  have hs2 := hW2.size
  clear hB2 hD2 hl2 hW2 kB1 kR1 HB1 HD1 HW1 hS
  refine hK.out _ _ (fun _ => kB2) ?_
  try simp only [Act.put, List.setIfInBounds_toArray, List.set_cons_zero, List.set_cons_succ]
  refine wpAnyE_oneL (k := 10) (by kernel_rfl) rfl (fun K hK => ?_)
  go_simp
  refine hK.out _ _ (fun _ => kB2) ?_
  try simp only [Act.put, List.setIfInBounds_toArray, List.set_cons_zero, List.set_cons_succ]
  have qR := kR2.cell
  have fR := kR2.free
  have lR := kR2.lt
  refine wpAnyE_oneL (k := 11) (by kernel_rfl) rfl (fun K hK => ?_)
  go_simp
  refine hK.out _ _ (fun h => absurd rfl h) ?_
  refine wpAnyE_done (by kernel_rfl) ?_ _
  go_wp2
  have hfin : ∀ (y0 y1 : Value), ((w2.setCell ⟨w.heap.size + 1, 0, none⟩ y0).setCell ⟨w.heap.size + 1, 1, none⟩ y1).heap.size = w2.heap.size := fun _ _ => by simp
  refine bodyPost_ret (v := .agg #[.slice b1 z1.length d1, .slice b2 z2.length d2]) (by simp [results, Tryz.results17, go_sem, *]) rfl ⟨_, _, z1, z2, rfl, by have := HL1.out; omega, by have := HL2.out; omega, ?_, ?_, ?_, ?_⟩
  · exact OwnR.wideM ((HO1.out.offM kR2).offM (kR2.set _ _)) (by omega) (by rw [hfin]; omega)
  · exact OwnR.wideM ((HO2.out.offM kR2).offM (kR2.set _ _)) (by omega) (by rw [hfin]; omega)
  · exact (HD2.out.apart (by omega) (by omega)).apart (by omega) (by omega)
  · exact (HW2.out.new _ _ _ (by omega)).new _ _ _ (by omega)
end Go.Proofs.YtlkcdelihdkgbaaGreat
