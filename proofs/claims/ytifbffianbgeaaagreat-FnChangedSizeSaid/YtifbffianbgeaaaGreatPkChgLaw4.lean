/- Contracts and plain laws, part 4, for the statement's proof. -/
import Derived.Test.YtifbffianbgeaaaGreatPkChgLaw3
import Derived.BigRegion
import Derived.Deep.RegionHeld3
import Derived.Deep.RegionHeldLaw
import Derived.Deep.DeepCutAuto
namespace Go.Proofs.YtifbffianbgeaaaGreat
open Go.RowKit
set_option linter.unusedVariables false
set_option linter.unusedSimpArgs false
theorem icells_set (zs : List Int) (i : Nat) (y : Int) : icells (zs.set i y) = (icells zs).set i (.int .i64 y) := by simp [icells, List.map_set]
theorem BldI.setAt {w : World} {lo hi G n cap : Nat} {zs : List Int} (h : BldI w lo hi (.slice (some ⟨G, 0, none⟩) n cap) zs) (i : Nat) (y : Int) : BldI (w.setCell ⟨G, i, none⟩ (.int .i64 y)) lo hi (.slice (some ⟨G, 0, none⟩) n cap) (zs.set i y) := by
  obtain ⟨hs, ⟨hlen, r⟩, h3⟩ := h
  refine ⟨by simpa using hs, ⟨by simp [icells], ?_⟩, h3⟩
  rcases r with ⟨r1, _⟩ | ⟨g, cap', cur, e1, e2, e3, e4, e5, e6, e7⟩
  · cases r1
  · have hg : G = g := by have := congrArg Value.ownBlock e1; simpa [Value.ownBlock] using this
    subst hg
    refine .inr ⟨G, cap', cur.setIfInBounds i (.int .i64 y), by rw [List.length_set]; exact e1, e2, Blk.set e3 i _, by rw [List.length_set]; exact e4, e5, by simpa using e6, ?_⟩
    rw [icells_set, ← e7, List.length_set, Array.toList_setIfInBounds, List.take_set]
theorem BldI.blk {w : World} {lo hi : Nat} {v : Value} {zs : List Int} (h : BldI w lo hi v zs) (h0 : 0 < zs.length) :
    ∃ G cap cs, v = .slice (some ⟨G, 0, none⟩) zs.length cap ∧ (lo ≤ G ∧ G < hi) ∧ Blk w G cs 2 ∧ ∀ (i : Nat) z, zs[i]? = some z → w.cell? ⟨G, i, none⟩ = some (.int .i64 z) := by
  obtain ⟨hs, ⟨hlen, r⟩, h3⟩ := h
  rcases r with ⟨_, r1⟩ | ⟨g, cap', cur, rfl, e2, e3, e4, e5, e6, e7⟩
  · omega
  · refine ⟨g, cap', cur, rfl, h3 g rfl, e3, fun i z hz => ?_⟩
    have hi : i < zs.length := (List.getElem?_eq_some_iff.1 hz).1
    have : (icells zs)[i]? = some (.int .i64 z) := by simp [icells, hz]
    rw [← e7, List.getElem?_take_of_lt (by omega)] at this
    rw [Blk.cell e3]
    simpa using this
set_option maxRecDepth 100000 in
set_option maxHeartbeats 1000000 in
theorem l27Identity_any (m : Nat) (hm : m ≤ 1000) (w : World) :
    Calls Tryz.prog 151 #[.int .i64 (m : Int)] w fun e w' => ∃ v, e = .returned v ∧ BldI w' w.heap.size w'.heap.size v (iota m) ∧ Below w.heap.size w w' := by
  have HI := Lib.hid (fun k : Nat => show iota (k + 1) = iota k ++ [(k : Int)] by simp [iota, List.range_succ])
  have HL := Lib.hid (fun k : Nat => length_iota k)
  go_enter Tryz.func151, Tryz.ntmps151
  go_wp2
  go_loopw [3, 4] (fun u i wr => ∃ (k hi : Nat), k ≤ m ∧ i = .int .i64 (k : Int) ∧ Hid (BldI wr w.heap.size hi u (iota k)) ∧ w.heap.size < hi ∧ Below w.heap.size w wr) (fun _ i _ => m - (intOf i).toNat)
  case atStart =>
    refine ⟨0, w.heap.size + 1, Nat.zero_le _, rfl, Lib.hid ?_, by omega, blwT⟩
    have hB : Blk (w.alloc (.cells #[] 2)) w.heap.size #[] 2 := Blk.new _ rfl
    exact BldI.lit (zs := []) hB rfl (by simp) (Nat.le_refl _) (by omega) (by simp)
  case round =>
    obtain ⟨k, hi, hk, rfl, HB, hhi, hb⟩ := hrel
    obtain ⟨a, c, rfl⟩ := HB.out.sized
    rw [HL.out k] at HB ⊢
    have hIs := HB.out.1
    have hlk := HL.out k
    have HLK := Lib.hid hlk
    by_cases hlt : k < m
    · have HX := Lib.hid (HI.out k)
      have i1 : (k : Int) < (m : Int) := by omega
      obtain ⟨Z, hZ⟩ : ∃ Z, iota k = Z := ⟨_, rfl⟩
      rw [hZ] at HB HLK HX
      have hzl : Z.length + 1 ≤ 2000 := by rw [HLK.out]; omega
      clear hZ hlk
      go_wp2_with (refine list_pushI (by rfl) _ _ (by rfl) w.heap.size hi (.slice a k c) Z [(k : Int)] (by rfl) (HB.out.by blwT) wr.heap.size 1 #[.int .i64 (k : Int)] (by rfl) (by rfl) (by omega) (Blk.new _ rfl) (by rfl) (by omega) (by omega) ?_; intro a5 c5 w5 hB5 hw5; have HB5 := Lib.hid hB5; rw [HLK.out]; clear hB5)
      have hsz := hw5.size
      simp only [World.size_alloc] at hsz
      refine ⟨⟨k + 1, w5.heap.size, by omega, by go_num, Lib.hid ?_, by omega, hw5.below (below_al hb _) (by omega)⟩, by simp [intOf]; omega⟩
      rw [HX.out]
      have := HB5.out
      rw [HLK.out] at this
      exact this
    · obtain rfl : k = m := by omega
      have i1 : ¬ (k : Int) < (k : Int) := by omega
      have hs := HB.out
      have HB2 := Lib.hid (show BldI wr w.heap.size wr.heap.size (.slice a k c) (iota k) from ⟨Nat.le_refl _, hs.2.1, fun g hg => by have := hs.2.2 g hg; omega⟩)
      clear hs HB
      go_wp2
      go_ret
      exact ⟨_, rfl, HB2.out, hb⟩
theorem Only.within {g : Nat} {w w' : World} (h : Only g w w') : Within g (g + 1) w w' := ⟨h.os, h.tape, h.output, Nat.le_of_eq h.size.symm, fun k _ hne => h.block k (by omega)⟩
theorem BldI.only {g : Nat} {w w' : World} {lo hi : Nat} {v : Value} {zs : List Int} (ho : Only g w w') (h : BldI w lo hi v zs) (hg : g < lo) : BldI w' lo hi v zs := BldI.past ho.within h (.inl (by omega))
set_option maxRecDepth 100000 in
set_option maxHeartbeats 2000000 in
theorem l27DrawOrder_any (W0 : World) (g : Nat) (sv : Value) (n : Nat) (m : Nat) (hm : m ≤ 200) (w : World) (hD : Src1 W0 g sv n w) :
    Calls Tryz.prog 122 #[.pointer (some ⟨g, 0, none⟩), .int .i64 (m : Int)] w fun e w' => ∃ v zs, e = .returned v ∧ zs.length = m ∧ BldI w' w.heap.size w'.heap.size v zs ∧ Src1 W0 g sv n w' ∧ Within g (g + 1) w w' := by
  have HN := Lib.hid (fun q w h hq => l01Next_any W0 g sv n q w h hq)
  have HID := Lib.hid (fun w => l27Identity_any m (by omega) w)
  have hgl := hD.lt
  have HD := Lib.hid hD
  clear hD
  go_enter Tryz.func122, Tryz.ntmps122
  go_wp2_with fail
  refine (HID.out _).mono ?_
  rintro e w1 ⟨v1, rfl, hB1, hb1⟩
  obtain ⟨a, c, rfl⟩ := hB1.sized
  rw [length_iota] at hB1 ⊢
  have hs1 := hb1.size
  have HB1 := Lib.hid hB1
  have HD1 := Lib.hid (HD.out.by hb1)
  have HW1 : Hid (Within g (g + 1) w w1) := Lib.hid ⟨hb1.os, hb1.tape, hb1.output, hb1.size, fun k hk _ => hb1.block k hk⟩
  have hwr : IntKind.i64.wrap ((m : Int) - 1) = (m : Int) - 1 := by simp [IntKind.wrap, IntKind.bits, IntKind.signed]; omega
  clear hB1 hb1
  go_wp2
  go_loopw [6] (fun i wr => ∃ (z : Int) (zs : List Int), (-1 ≤ z ∧ z < m) ∧ i = .int .i64 z ∧ Hid (zs.length = m) ∧ Hid (BldI wr w.heap.size wr.heap.size (.slice a m c) zs) ∧ Hid (Src1 W0 g sv n wr) ∧ Hid (Within g (g + 1) w wr)) (fun i _ => (intOf i).toNat)
  case atStart => exact ⟨(m : Int) - 1, iota m, by omega, (by first | rfl | rw [hwr] | go_num), Lib.hid (length_iota m), HB1, HD1, HW1⟩
  case round =>
    clear HB1 HD1 HW1
    obtain ⟨z, zs, hz, rfl, HZL, HB, HDr, HWr⟩ := hrel
    by_cases hlt : 0 < z
    · obtain ⟨q, rfl⟩ : ∃ q : Nat, z = q := ⟨z.toNat, by omega⟩
      have hwq : IntKind.i64.wrap ((q : Int) + 1) = (q : Int) + 1 := by simp [IntKind.wrap, IntKind.bits, IntKind.signed]; omega
      go_wp2_with fail
      refine (HN.out _ _ HDr.out (by first | omega | (rw [hwq]; omega))).mono ?_
      rintro e w2 ⟨y, rfl, hy0, hy1, hD2, ho2⟩
      have hyq : y ≤ (q : Int) := by first | omega | (rw [hwq] at hy1; omega)
      obtain ⟨k, rfl⟩ : ∃ k : Nat, y = k := ⟨y.toNat, by omega⟩
      have hB2 := BldI.only ho2 HB.out hgl
      have hs2 := ho2.size
      have hzl := HZL.out
      obtain ⟨G, cap, cs, hv, hG, hBk, hcell⟩ := hB2.blk (by omega)
      rw [hzl] at hv
      obtain ⟨rfl, rfl⟩ : a = some ⟨G, 0, none⟩ ∧ c = cap := by simpa using hv
      obtain ⟨xq, hxq⟩ : ∃ x, zs[q]? = some x := ⟨zs[q]'(by omega), List.getElem?_eq_getElem _⟩
      obtain ⟨xk, hxk⟩ : ∃ x, zs[k]? = some x := ⟨zs[k]'(by omega), List.getElem?_eq_getElem _⟩
      have cq := hcell q xq hxq
      have ck := hcell k xk hxk
      have fG := hBk.free
      have lG := hBk.lt
      have HB2 := Lib.hid hB2
      have HD2 := Lib.hid hD2
      have HO2 := Lib.hid ho2
      have hge : W0.heap.size ≤ G := by
        have := HD.out.2.1.size
        omega
      have hgG : g ≠ G := by omega
      have i1 : (0 : Int) ≤ (q : Int) := by omega
      have i2 : (q : Int) < (m : Int) := by omega
      have i3 : (0 : Int) ≤ (k : Int) := by omega
      have i4 : (k : Int) < (m : Int) := by omega
      have HZL2 := Lib.hid hzl
      clear hv hcell hBk hB2 hD2 ho2 hxq hxk hzl HZL HB HDr
      have h1 := HB2.out.setAt q xk
      have h2 := h1.setAt k xq
      have hW2 : Within g (g + 1) w w2 := HWr.out.on HO2.out.within
      have hWs : ∀ v1 v2, Within g (g + 1) w ((w2.setCell ⟨G, q, none⟩ v1).setCell ⟨G, k, none⟩ v2) := fun v1 v2 => (hW2.new G q v1 (by omega)).new G k v2 (by omega)
      have HFIN := Lib.hid (show BldI ((w2.setCell ⟨G, q, none⟩ (.int .i64 xk)).setCell ⟨G, k, none⟩ (.int .i64 xq)) w.heap.size ((w2.setCell ⟨G, q, none⟩ (.int .i64 xk)).setCell ⟨G, k, none⟩ (.int .i64 xq)).heap.size (.slice (some ⟨G, 0, none⟩) m c) ((zs.set q xk).set k xq) from ⟨Nat.le_refl _, h2.2.1, fun g' hg' => by have := h2.2.2 g' hg'; simp at this ⊢; omega⟩)
      have HWS := Lib.hid (hWs (.int .i64 xk) (.int .i64 xq))
      have HDF := Lib.hid ((HD2.out.apart (o := q) (v := .int .i64 xk) hgG hge).apart (o := k) (v := .int .i64 xq) hgG hge)
      clear h1 h2 hW2 hWs
      by_cases hqk : q = k
      · subst hqk
        obtain rfl : xq = xk := by rw [cq] at ck; simpa using ck
        go_wp2
        exact ⟨⟨(q : Int) - 1, (zs.set q xq).set q xq, by omega, by go_num, Lib.hid (by simp [HZL2.out]), Lib.hid HFIN.out, Lib.hid HDF.out, Lib.hid HWS.out⟩, by simp [intOf]; omega⟩
      · have hkq : ¬ k = q := fun e => hqk e.symm
        go_wp2
        exact ⟨⟨(q : Int) - 1, (zs.set q xk).set k xq, by omega, by go_num, Lib.hid (by simp [HZL2.out]), Lib.hid HFIN.out, Lib.hid HDF.out, Lib.hid HWS.out⟩, by simp [intOf]; omega⟩
    · have i1 : ¬ (0 : Int) < z := hlt
      go_wp2
      go_ret
      first | exact ⟨_, zs, rfl, HZL.out, HB.out, HDr.out, HWr.out⟩ | exact ⟨_, rfl, zs, HZL.out, HB.out, HDr.out, HWr.out⟩
/- The draw of two orders, and of a matching. -/
theorem Src1.withinO {W0 w w' : World} {g n lo hi : Nat} {sv : Value} (h : Src1 W0 g sv n w) (hw : Within lo hi w w') (h1 : W0.heap.size ≤ lo) (h2 : g < lo ∨ hi ≤ g) : Src1 W0 g sv n w' := by
  have hl := h.lt
  obtain ⟨a1, a2, a3, a4, i, x, a5, a6, a7, a8⟩ := h
  exact ⟨a1, hw.below a2 h1, a3, a4, i, x, a5, a6, a7, (hw.block g hl h2).trans a8⟩
theorem below_new (w : World) (o : Obj) : Below w.heap.size w (w.alloc o) := (Below.refl _ w).alloc (Nat.le_refl _) o
theorem Within.newer {a w w' : World} {lo hi lo' hi' : Nat} (h : Within lo hi a w) (h' : Within lo' hi' w w') (hl : a.heap.size ≤ lo') : Within lo hi a w' :=
  ⟨h'.os.trans h.os, h'.tape.trans h.tape, h'.output.trans h.output, Nat.le_trans h.size h'.size, fun k hk hne => (h'.block k (Nat.lt_of_lt_of_le hk h.size) (.inl (by omega))).trans (h.block k hk hne)⟩
theorem Blk.differ2 {w : World} {g : Nat} {a b : Array Value} {T1 T2 : TypeId} (h1 : Blk w g a T1) (h2 : Blk w g b T2) : T1 = T2 := by
  have h := h1.symm.trans h2
  injection h with h
  injection h
theorem OwnR.offM {w : World} {lo hi T o : Nat} {cs : Array Value} {sv v : Value} {zs : List Int} (h : OwnR w lo hi sv zs) (hT : Blk w T cs 29) : OwnR (w.setCell ⟨T, o, none⟩ v) lo hi sv zs := by
  rcases h with h | ⟨g, cap, c2, h1, h2, h3, h4, h5, h6, h7⟩
  · exact .inl h
  · exact .inr ⟨g, cap, c2, h1, h2, h3, h4, h5, h6.apart T o v (fun e => by subst e; exact absurd (h6.differ2 hT) (by decide)), h7⟩
theorem OwnR.threeM {w : World} {lo hi M R : Nat} {cM cR : Array Value} {sv : Value} {zs : List Int} (h : OwnR w lo hi sv zs) (kM : Blk w M cM 29) (kR : Blk w R cR 29) (o : Nat) (y y0 y1 : Value) :
    OwnR (((w.setCell ⟨M, o, none⟩ y).setCell ⟨R, 0, none⟩ y0).setCell ⟨R, 1, none⟩ y1) lo hi sv zs := by
  have h1 := h.offM (o := o) (v := y) kM
  by_cases e : R = M
  · subst e
    exact (h1.offM (kM.set o y)).offM ((kM.set o y).set 0 y0)
  · exact (h1.offM (kR.apart M o y e)).offM ((kR.apart M o y e).set 0 y0)
def MaO (m : Nat) (w : World) (v : Value) (z : List Int × List Int) : Prop := ∃ s1 s2, v = .agg #[s1, s2] ∧ (∃ lo hi, m ≤ lo ∧ OwnR w lo hi s1 z.1) ∧ ∃ lo hi, m ≤ lo ∧ OwnR w lo hi s2 z.2
theorem MaO.ma {m : Nat} {w : World} {v : Value} {z : List Int × List Int} (h : MaO m w v z) : MaV w v z := by
  obtain ⟨s1, s2, e, ⟨_, _, _, h1⟩, _, _, _, h2⟩ := h
  exact ⟨s1, s2, e, h1.sl, h2.sl⟩
theorem MaO.by {m : Nat} {w w' : World} {v : Value} {z : List Int × List Int} (hb : Below w.heap.size w w') (h : MaO m w v z) : MaO m w' v z := by
  obtain ⟨s1, s2, e, ⟨_, _, a1, h1⟩, _, _, a2, h2⟩ := h
  exact ⟨s1, s2, e, ⟨_, _, a1, h1.by hb⟩, _, _, a2, h2.by hb⟩
theorem MaO.past {m lo hi : Nat} {w w' : World} {v : Value} {z : List Int × List Int} (hb : Within lo hi w w') (h : MaO m w v z) (hm : hi ≤ m) : MaO m w' v z := by
  obtain ⟨s1, s2, e, ⟨_, _, a1, h1⟩, _, _, a2, h2⟩ := h
  exact ⟨s1, s2, e, ⟨_, _, a1, h1.past hb (.inr (by omega))⟩, _, _, a2, h2.past hb (.inr (by omega))⟩
theorem MaO.low {m m' : Nat} {w : World} {v : Value} {z : List Int × List Int} (h : MaO m w v z) (hm : m' ≤ m) : MaO m' w v z := by
  obtain ⟨s1, s2, e, ⟨_, _, a1, h1⟩, _, _, a2, h2⟩ := h
  exact ⟨s1, s2, e, ⟨_, _, by omega, h1⟩, _, _, by omega, h2⟩
theorem MaO.offM {m T o : Nat} {cs : Array Value} {w : World} {v u : Value} {z : List Int × List Int} (h : MaO m w v z) (hT : Blk w T cs 29) : MaO m (w.setCell ⟨T, o, none⟩ u) v z := by
  obtain ⟨s1, s2, e, ⟨_, _, a1, h1⟩, _, _, a2, h2⟩ := h
  exact ⟨s1, s2, e, ⟨_, _, a1, h1.offM hT⟩, _, _, a2, h2.offM hT⟩
set_option maxRecDepth 100000 in
set_option maxHeartbeats 2000000 in
theorem l30DrawOrders_any (W0 : World) (g : Nat) (sv : Value) (n : Nat) (p q : Nat) (hp : p ≤ 100) (hq : q ≤ 100) (w : World) (hD : Src1 W0 g sv n w) :
    Calls Tryz.prog 74 #[.pointer (some ⟨g, 0, none⟩), .int .i64 (p : Int), .int .i64 (q : Int)] w fun e w' => ∃ v, e = .returned v ∧ ∃ z, MaO w.heap.size w' v z ∧ z.1.length ≤ 300 ∧ z.2.length ≤ 300 ∧ Src1 W0 g sv n w' ∧ Within g (g + 1) w w' := by
  have HN := Lib.hid (fun m w h hm => l01Next_any W0 g sv n m w h hm)
  have HO := Lib.hid (fun m hm w h => l27DrawOrder_any W0 g sv n m hm w h)
  have hgl := hD.lt
  have hg0 := hD.1
  have HD0 : Hid (Src1 W0 g sv n (w.alloc (.cells #[.slice none 0 0, .slice none 0 0] 29))) := Lib.hid (hD.by ((Below.refl _ w).alloc (Nat.le_refl _) _))
  have kR0 : Blk (w.alloc (.cells #[.slice none 0 0, .slice none 0 0] 29)) w.heap.size #[.slice none 0 0, .slice none 0 0] 29 := Blk.new _ rfl
  have HW0 : Hid (Within g (g + 1) w (w.alloc (.cells #[.slice none 0 0, .slice none 0 0] 29))) := Lib.hid ((Within.refl _ _ _).alloc _)
  have hs0 : (w.alloc (.cells #[.slice none 0 0, .slice none 0 0] 29)).heap.size = w.heap.size + 1 := by simp
  clear hD
  go_enter Tryz.func74, Tryz.ntmps74
  go_wp2_with fail
  refine (HO.out p (by omega) _ HD0.out).mono ?_
  rintro e w1 ⟨v1, z1, rfl, hl1, hB1, hD1, hW1⟩
  obtain ⟨a1, c1, rfl⟩ := hB1.sized
  rw [hl1] at hB1 ⊢
  have HB1 := Lib.hid hB1
  have HD1 := Lib.hid hD1
  have HL1 := Lib.hid hl1
  have hs1 := hW1.size
  have kR1 := hW1.blk kR0 (by omega)
  have HW1 := Lib.hid (HW0.out.on hW1)
  clear hB1 hD1 hl1 hW1 kR0 HW0 HD0
  go_wp2_with fail
  refine (HO.out q (by omega) _ HD1.out).mono ?_
  rintro e w2 ⟨v2, z2, rfl, hl2, hB2, hD2, hW2⟩
  obtain ⟨a2, c2, rfl⟩ := hB2.sized
  rw [hl2] at hB2 ⊢
  have HB2 := Lib.hid hB2
  have HL2 := Lib.hid hl2
  have hs2 := hW2.size
  have kR2 := hW2.blk kR1 (by omega)
  have HB1' := Lib.hid (HB1.out.past hW2 (.inl (by omega)))
  have HW2 := Lib.hid (HW1.out.on hW2)
  have HD2 := Lib.hid hD2
  clear hB2 hD2 hl2 hW2 kR1 HW1 HD1 HB1
  obtain ⟨M, hM⟩ : ∃ M, w2.heap.size = M := ⟨_, rfl⟩
  obtain ⟨w3, hw3⟩ : ∃ z, z = w2.alloc (.cells #[.slice a1 p c1, .slice a2 q c2] 29) := ⟨_, rfl⟩
  have hal : Below w2.heap.size w2 w3 := by rw [hw3]; exact (Below.refl _ w2).alloc (Nat.le_refl _) _
  have kM3 : Blk w3 M #[.slice a1 p c1, .slice a2 q c2] 29 := by rw [hw3]; exact Blk.new _ hM.symm
  have hs3 : w3.heap.size = M + 1 := by rw [hw3]; simp [hM]
  have kR3 := Blk.by hal kR2
  have HD3 := Lib.hid (HD2.out.by hal)
  have HB13 := Lib.hid (HB1'.out.by hal)
  have HB23 := Lib.hid (HB2.out.by hal)
  have HW3 : Hid (Within g (g + 1) w w3) := Lib.hid (HW2.out.on ⟨hal.os, hal.tape, hal.output, hal.size, fun k hk _ => hal.block k hk⟩)
  simp only [hs0] at HB13
  go_wp2_with fail
  (try rw [← hw3])
  (try rw [hM])
  clear hw3 hal kR2 HD2 HB1' HB2 HW2
  refine (HN.out 20 _ HD3.out (by omega)).mono ?_
  rintro e w4 ⟨y, rfl, hy0, hy1, hD4, ho4⟩
  have hs4 := ho4.size
  have kM4 : Blk w4 M _ 29 := ho4.blk kM3 (by omega)
  have kR4 : Blk w4 w.heap.size _ 29 := ho4.blk kR3 (by omega)
  have HB14 := Lib.hid (HB13.out.only ho4 (by omega))
  have HB24 := Lib.hid (HB23.out.only ho4 (by omega))
  have HW4 := Lib.hid (HW3.out.on ho4.within)
  have HD4 := Lib.hid hD4
  clear hD4 ho4 kM3 kR3 HB13 HB23 HW3 HD3
  have qM := kM4.cell
  have fM := kM4.free
  have lM := kM4.lt
  have qR := kR4.cell
  have fR := kR4.free
  have lR := kR4.lt
  have hge0 : W0.heap.size ≤ w.heap.size := by omega
  have hll1 := HL1.out
  have hll2 := HL2.out
  have HLL := Lib.hid (And.intro hll1 hll2)
  clear hll1 hll2
  by_cases y0 : y = 0
  · have e0 : (y == 0) = true := by simpa using y0
    clear y0
    go_upto_region 4 with fail
    have hS : (fun w' : World => w'.cell? ⟨M, 0, none⟩ = some (.slice a1 p c1)) { w4 with drawn := w4.drawn + 1 } := qM 0
    refine wp_region_any (by kernel_rfl) (wpAny_of_E (S := fun w' => w'.cell? ⟨M, 0, none⟩ = some (.slice a1 p c1)) (l := 7) _ _ _ _ ?_)
    change wpAnyE _ _ _ _ _ _ _ _ _ w4.drew
    refine wpAnyE_take (i := 0) (v := ?_) rfl (by kernel_rfl) (fun _ _ _ h => h) (Or.inl ⟨by rfl, ?_⟩) hS ?_
    rotate_left
    · intro w hSw; (try dsimp only at hSw); go_simp; (try with_reducible rfl)
    try simp only [Act.put, List.setIfInBounds_toArray, List.set_cons_zero, List.set_cons_succ]
    refine wpAnyE_take (i := 1) (v := ?_) rfl (by kernel_rfl) (fun _ _ _ h => h) (Or.inl ⟨by rfl, ?_⟩) hS ?_
    rotate_left
    · intro w hSw; (try dsimp only at hSw); go_simp; (try with_reducible rfl)
    try simp only [Act.put, List.setIfInBounds_toArray, List.set_cons_zero, List.set_cons_succ]
    refine wpAnyE_take (i := 2) (v := ?_) rfl (by kernel_rfl) (fun _ _ _ h => h) (Or.inl ⟨by rfl, ?_⟩) hS ?_
    rotate_left
    · intro w hSw; (try dsimp only at hSw); go_simp; (try with_reducible rfl)
    try simp only [Act.put, List.setIfInBounds_toArray, List.set_cons_zero, List.set_cons_succ]
    refine wpAnyE_one (k := 3) (by kernel_rfl) rfl (fun K hK => ?_)
    go_simp
    go_at_call 73
    refine (HN.out 3 _ (HD4.out.by (Below.refl _ w4).drew) (by omega)).mono ?_
    rintro e w5 ⟨x, rfl, hx0, hx1, hD5, ho5⟩
    have hs5 := ho5.size
    simp only [World.size_drew] at hs5
    have kM5 : Blk w5 M _ 29 := ho5.blk (kM4.drew) (by omega)
    have kR5 : Blk w5 w.heap.size _ 29 := ho5.blk (kR4.drew) (by omega)
    have HB15 := Lib.hid ((HB14.out.by (Below.refl _ w4).drew).only ho5 (by omega))
    have HB25 := Lib.hid ((HB24.out.by (Below.refl _ w4).drew).only ho5 (by omega))
    have HD5 := Lib.hid hD5
    have HW5 : Hid (Within g (g + 1) w w5) := Lib.hid ((HW4.out.drewN 1).on ho5.within)
    have qM5 := kM5.cell
    clear hD5 ho5
    go_simp
    refine hK.out _ _ (fun _ => qM5 0) ?_
    try simp only [Act.put, List.setIfInBounds_toArray, List.set_cons_zero, List.set_cons_succ]
    refine wpAnyE_one (k := 4) (by kernel_rfl) rfl (fun K hK => ?_)
    go_simp
    have hal : Below w5.heap.size w5 (w5.alloc (.cells #[.int .i64 x] 2)) := (Below.refl _ w5).alloc (Nat.le_refl _) _
    refine hK.out _ _ (fun _ => cell_by' hal (qM5 0)) ?_
    try simp only [Act.put, List.setIfInBounds_toArray, List.set_cons_zero, List.set_cons_succ]
    refine wpAnyE_one (k := 5) (by kernel_rfl) rfl (fun K hK => ?_)
    obtain ⟨hla, hlb⟩ := HLL.out
    refine step_pushI (by rfl) _ _ (by rfl) _ _ (.slice a1 p c1) z1 [x] (by rfl) (HB15.out.by hal) _ 1 #[.int .i64 x] (by rfl) rfl (by omega) (Blk.new _ (by omega)) rfl (by omega) (by omega) ?_
    intro a6 c6 w6 hB6 hw6
    rw [hla] at hB6 ⊢
    have hs6 := hw6.size
    simp only [World.size_alloc] at hs6
    have kM6 : Blk w6 M _ 29 := hw6.blk (kM5.past _) (by omega)
    have kR6 : Blk w6 w.heap.size _ 29 := hw6.blk (kR5.past _) (by omega)
    have HB6 := Lib.hid hB6
    have HB26 := Lib.hid ((HB25.out.by hal).past hw6 (.inl (by omega)))
    have HD6 := Lib.hid ((HD5.out.by hal).withinO hw6 (by omega) (.inl (by omega)))
    have HW6 : Hid (Within g (g + 1) w w6) := Lib.hid ((HW5.out.alloc _).newer hw6 (by omega))
    have qM6 := kM6.cell
    have fM6 := kM6.free
    have lM6 := kM6.lt
    have fR6 := kR6.free
    have lR6 := kR6.lt
    have qR6 := kR6.cell
    clear hB6 hw6 hal
    refine hK.out _ _ (fun _ => qM6 0) ?_
    try simp only [Act.put, List.setIfInBounds_toArray, List.set_cons_zero, List.set_cons_succ]
    refine wpAnyE_one (k := 6) (by kernel_rfl) rfl (fun K hK => ?_)
    go_simp
    refine hK.out _ _ (fun _ => qM6 0) ?_
    try simp only [Act.put, List.setIfInBounds_toArray, List.set_cons_zero, List.set_cons_succ]
    refine wpAnyE_one (k := 7) (by kernel_rfl) rfl (fun K hK => ?_)
    go_simp
    refine hK.out _ _ (fun h => absurd rfl h) ?_
    refine wpAnyE_done (by kernel_rfl) ?_ _
    clear hS
    have hMR : ¬ M = w.heap.size := by omega
    have hRM : ¬ w.heap.size = M := by omega
    go_wp2
    refine bodyPost_ret (v := .agg #[.slice a6 (p + 1) c6, .slice a2 q c2]) (by simp [results, Tryz.results74, go_sem, *]) rfl ⟨_, rfl, (z1 ++ [x], z2), ⟨_, _, rfl, ?_, ?_⟩, ?_, ?_, ?_, ?_⟩
    · exact ⟨_, _, by omega, OwnR.threeM (HB6.out).own kM6 kR6 _ _ _ _⟩
    · exact ⟨_, _, by omega, OwnR.threeM (HB26.out).own kM6 kR6 _ _ _ _⟩
    · simp; omega
    · simp; omega
    · exact (((HD6.out).apart (by omega) (by omega)).apart (by omega) (by omega)).apart (by omega) (by omega)
    · exact (((HW6.out).newer (Within.off _) (by omega)).newer (Within.off _) (by omega)).newer (Within.off _) (by omega)
  · have e0 : (y == 0) = false := by simpa using y0
    by_cases y1 : y = 1
    · have e1 : (y == 1) = true := by simpa using y1
      clear y0 y1
      have hMR : ¬ M = w.heap.size := by omega
      have hRM : ¬ w.heap.size = M := by omega
      obtain ⟨hla, hlb⟩ := HLL.out
      go_wp2_with (refine list_pushI (by rfl) _ _ (by rfl) _ _ (.slice a2 q c2) z2 [-1] (by rfl) (HB24.out.by blwT) _ 1 #[.int .i64 (-1)] (by rfl) (by rfl) (by omega) (Blk.new _ (by omega)) (by rfl) (by omega) (by omega) ?_; intro a6 c6 w6 hB6 hw6; rw [hlb] at hB6 ⊢; have hs6 := hw6.size; simp only [World.size_alloc] at hs6; have kM6 : Blk w6 M _ 29 := hw6.blk (kM4.past _) (by omega); have kR6 : Blk w6 w.heap.size _ 29 := hw6.blk (kR4.past _) (by omega); have HB6 := Lib.hid hB6; have HB16 := Lib.hid ((HB14.out.by (below_new w4 _)).past hw6 (.inr (by omega))); have HD6 := Lib.hid ((HD4.out.by (below_new w4 _)).withinO hw6 (by omega) (.inl (by omega))); have HW6 : Hid (Within g (g + 1) w w6) := Lib.hid ((HW4.out.alloc _).newer hw6 (by omega)); have qM6 := kM6.cell; have fM6 := kM6.free; have lM6 := kM6.lt; have fR6 := kR6.free; have lR6 := kR6.lt; have qR6 := kR6.cell; clear hB6 hw6)
      refine bodyPost_ret (v := .agg #[.slice a1 p c1, .slice a6 (q + 1) c6]) (by simp [results, Tryz.results74, go_sem, *]) rfl ⟨_, rfl, (z1, z2 ++ [-1]), ⟨_, _, rfl, ?_, ?_⟩, ?_, ?_, ?_, ?_⟩
      · exact ⟨_, _, by omega, OwnR.threeM (HB16.out).own kM6 kR6 _ _ _ _⟩
      · exact ⟨_, _, by omega, OwnR.threeM (HB6.out).own kM6 kR6 _ _ _ _⟩
      · simp; omega
      · simp; omega
      · exact (((HD6.out).apart (by omega) (by omega)).apart (by omega) (by omega)).apart (by omega) (by omega)
      · exact (((HW6.out).newer (Within.off _) (by omega)).newer (Within.off _) (by omega)).newer (Within.off _) (by omega)
    · have e1 : (y == 1) = false := by simpa using y1
      by_cases y2 : y = 2
      · have e2 : (y == 2) = true := by simpa using y2
        clear y0 y1 y2
        have hMR : ¬ M = w.heap.size := by omega
        have hRM : ¬ w.heap.size = M := by omega
        obtain ⟨hla, hlb⟩ := HLL.out
        go_wp2_with fail
        refine (HN.out 2 _ HD4.out (by omega)).mono ?_
        rintro e w5 ⟨x, rfl, hx0, hx1, hD5, ho5⟩
        obtain ⟨k, rfl⟩ : ∃ k : Nat, x = k := ⟨x.toNat, by omega⟩
        have hs5 := ho5.size
        have kM5 : Blk w5 M _ 29 := ho5.blk kM4 (by omega)
        have kR5 : Blk w5 w.heap.size _ 29 := ho5.blk kR4 (by omega)
        have HB25 := Lib.hid (HB24.out.only ho5 (by omega))
        have HD5 := Lib.hid hD5
        have HW5 : Hid (Within g (g + 1) w w5) := Lib.hid (HW4.out.on ho5.within)
        have hwk : IntKind.i64.wrap (24 + (k : Int)) = ((24 + k : Nat) : Int) := by simp [IntKind.wrap, IntKind.bits, IntKind.signed]; omega
        clear hD5 ho5
        go_wp2_with fail
        (try rw [hwk])
        (try rw [show (24 : Int) + (k : Int) = ((24 + k : Nat) : Int) by omega])
        refine (HO.out (24 + k) (by omega) _ HD5.out).mono ?_
        rintro e w6 ⟨v6, z6, rfl, hl6, hB6, hD6, hW6⟩
        obtain ⟨a6, c6, rfl⟩ := hB6.sized
        have hs6 := hW6.size
        have kM6 : Blk w6 M _ 29 := hW6.blk kM5 (by omega)
        have kR6 : Blk w6 w.heap.size _ 29 := hW6.blk kR5 (by omega)
        have HB6 := Lib.hid hB6
        have HB26 := Lib.hid (HB25.out.past hW6 (.inl (by omega)))
        have HD6 := Lib.hid hD6
        have HW6 : Hid (Within g (g + 1) w w6) := Lib.hid (HW5.out.on hW6)
        have HL6 := Lib.hid hl6
        have qM6 := kM6.cell
        have fM6 := kM6.free
        have lM6 := kM6.lt
        have fR6 := kR6.free
        have lR6 := kR6.lt
        have qR6 := kR6.cell
        clear hB6 hD6 hW6 hl6
        go_wp2
        have hl6 := HL6.out
        refine bodyPost_ret (v := .agg #[.slice a6 z6.length c6, .slice a2 q c2]) (by simp [results, Tryz.results74, go_sem, *]) rfl ⟨_, rfl, (z6, z2), ⟨_, _, rfl, ?_, ?_⟩, ?_, ?_, ?_, ?_⟩
        · exact ⟨_, _, by omega, OwnR.threeM (HB6.out).own kM6 kR6 _ _ _ _⟩
        · exact ⟨_, _, by omega, OwnR.threeM (HB26.out).own kM6 kR6 _ _ _ _⟩
        · simp; omega
        · simp; omega
        · exact (((HD6.out).apart (by omega) (by omega)).apart (by omega) (by omega)).apart (by omega) (by omega)
        · exact (((HW6.out).newer (Within.off _) (by omega)).newer (Within.off _) (by omega)).newer (Within.off _) (by omega)
      · have e2 : (y == 2) = false := by simpa using y2
        clear y0 y1 y2
        obtain ⟨hla, hlb⟩ := HLL.out
        go_wp2
        refine bodyPost_ret (v := .agg #[.slice a1 p c1, .slice a2 q c2]) (by simp [results, Tryz.results74, go_sem, *]) rfl ⟨_, rfl, (z1, z2), ⟨_, _, rfl, ?_, ?_⟩, ?_, ?_, ?_, ?_⟩
        · exact ⟨_, _, by omega, (BldI.past (Within.off _) (BldI.past (Within.off _) (HB14.out) (by omega)) (by omega)).own⟩
        · exact ⟨_, _, by omega, (BldI.past (Within.off _) (BldI.past (Within.off _) (HB24.out) (by omega)) (by omega)).own⟩
        · simp; omega
        · simp; omega
        · exact ((HD4.out).apart (by omega) (by omega)).apart (by omega) (by omega)
        · exact ((HW4.out).newer (Within.off _) (by omega)).newer (Within.off _) (by omega)
/- The draw of a matching for a netlist. -/
theorem OwnR.wideM {w : World} {lo hi lo' hi' : Nat} {v : Value} {zs : List Int} (h : OwnR w lo hi v zs) (h1 : lo' ≤ lo) (h2 : hi ≤ hi') : OwnR w lo' hi' v zs := by
  rcases h with h | ⟨g, cap, cs, e1, e2, e3, e4⟩
  · exact .inl h
  · exact .inr ⟨g, cap, cs, e1, by omega, by omega, e4⟩
set_option maxRecDepth 100000 in
set_option maxHeartbeats 8000000 in
theorem l30DrawMatching_any (W0 : World) (g : Nat) (sv : Value) (n : Nat) (nets : Int) (a1 a2 : Option Addr) (L L2 c1 c2 : Nat) (hn0 : -1000 ≤ nets) (hn1 : nets ≤ 200) (hL : L ≤ 200) (w : World) (hD : Src1 W0 g sv n w) :
    Calls Tryz.prog 72 #[.pointer (some ⟨g, 0, none⟩), .agg #[.int .i64 nets, .slice a1 L c1, .slice a2 L2 c2]] w fun e w' => ∃ v1 v2 z1 z2, e = .returned (.agg #[v1, v2]) ∧ z1.length ≤ 200 ∧ z2.length ≤ 200 ∧ OwnR w' w.heap.size w'.heap.size v1 z1 ∧ OwnR w' w.heap.size w'.heap.size v2 z2 ∧ Src1 W0 g sv n w' ∧ Within g (g + 1) w w' := by
  have HO := Lib.hid (fun m hm w h => l27DrawOrder_any W0 g sv n m hm w h)
  have hgl := hD.lt
  obtain ⟨m, hm⟩ : ∃ m : Nat, m = nets.toNat := ⟨_, rfl⟩
  have hm2 : m ≤ 200 := by omega
  have kB : Blk ((w.alloc (.cells #[.int .i64 nets, .slice a1 L c1, .slice a2 L2 c2] 35)).alloc (.cells #[.slice none 0 0, .slice none 0 0] 29)) w.heap.size #[.int .i64 nets, .slice a1 L c1, .slice a2 L2 c2] 35 := (Blk.new _ rfl).past _
  have kR : Blk ((w.alloc (.cells #[.int .i64 nets, .slice a1 L c1, .slice a2 L2 c2] 35)).alloc (.cells #[.slice none 0 0, .slice none 0 0] 29)) (w.heap.size + 1) #[.slice none 0 0, .slice none 0 0] 29 := Blk.new _ (by simp)
  have hW0 : Within g (g + 1) w ((w.alloc (.cells #[.int .i64 nets, .slice a1 L c1, .slice a2 L2 c2] 35)).alloc (.cells #[.slice none 0 0, .slice none 0 0] 29)) := ((Within.refl _ _ _).alloc _).alloc _
  have HD0 := Lib.hid ((hD.by ((Below.refl _ _).alloc (Nat.le_refl _) (.cells #[.int .i64 nets, .slice a1 L c1, .slice a2 L2 c2] 35))).by ((Below.refl _ _).alloc (Nat.le_refl _) (.cells #[.slice none 0 0, .slice none 0 0] 29)))
  have hs0 : ((w.alloc (.cells #[.int .i64 nets, .slice a1 L c1, .slice a2 L2 c2] 35)).alloc (.cells #[.slice none 0 0, .slice none 0 0] 29)).heap.size = w.heap.size + 2 := by simp
  have HM := Lib.hid hm
  have hg0 : W0.heap.size ≤ g := hD.1
  clear hD
  go_enter Tryz.func72, Tryz.ntmps72
  go_upto_region 1 with fail
  generalize (w.alloc (.cells #[.int .i64 nets, .slice a1 L c1, .slice a2 L2 c2] 35)).alloc (.cells #[.slice none 0 0, .slice none 0 0] 29) = wA at *
  have hsA : w.heap.size + 2 ≤ wA.heap.size := by omega
  clear hs0 hm
  have hS : (fun w' : World => Blk w' w.heap.size #[.int .i64 nets, .slice a1 L c1, .slice a2 L2 c2] 35) { wA with drawn := wA.drawn + 1 } := kB.drew
  refine wp_region_any (by kernel_rfl) (wpAny_of_E (S := fun w' : World => Blk w' w.heap.size #[.int .i64 nets, .slice a1 L c1, .slice a2 L2 c2] 35) (l := 11) _ _ _ _ ?_)
  change wpAnyE _ _ _ _ _ _ _ _ _ wA.drew
  refine wpAnyE_takeL (i := 0) (v := ?_) rfl (by kernel_rfl) (fun _ _ _ h => h) (Or.inl ⟨by rfl, ?_⟩) hS ?_
  rotate_left
  · intro w hSw; (try dsimp only at hSw); have hc0 := hSw.cell 0; have hc1 := hSw.cell 1; have hl := hSw.lt; clear hSw; go_simp; (try with_reducible rfl)
  try simp only [Act.put, List.setIfInBounds_toArray, List.set_cons_zero, List.set_cons_succ]
  refine wpAnyE_takeL (i := 1) (v := ?_) rfl (by kernel_rfl) (fun _ _ _ h => h) (Or.inl ⟨by rfl, ?_⟩) hS ?_
  rotate_left
  · intro w hSw; (try dsimp only at hSw); have hc0 := hSw.cell 0; have hc1 := hSw.cell 1; have hl := hSw.lt; clear hSw; go_simp; (try with_reducible rfl)
  try simp only [Act.put, List.setIfInBounds_toArray, List.set_cons_zero, List.set_cons_succ]
  refine wpAnyE_takeL (i := 2) (v := ?_) rfl (by kernel_rfl) (fun _ _ _ h => h) (Or.inl ⟨by rfl, ?_⟩) hS ?_
  rotate_left
  · intro w hSw; (try dsimp only at hSw); have hc0 := hSw.cell 0; have hc1 := hSw.cell 1; have hl := hSw.lt; clear hSw; go_simp; (try with_reducible rfl)
  try simp only [Act.put, List.setIfInBounds_toArray, List.set_cons_zero, List.set_cons_succ]
  refine wpAnyE_takeL (i := 3) (v := .int .i64 (m : Int)) rfl (by kernel_rfl) (fun _ _ _ h => h) (Or.inl ⟨by rfl, ?_⟩) hS ?_
  · intro w hSw
    have hm := HM.out
    have hmm : (m : Int) = max 0 nets := by omega
    go_simp
    split <;> omega
  try simp only [Act.put, List.setIfInBounds_toArray, List.set_cons_zero, List.set_cons_succ]
  refine wpAnyE_takeL (i := 5) (v := ?_) rfl (by kernel_rfl) (fun _ _ _ h => h) (Or.inl ⟨by rfl, ?_⟩) hS ?_
  rotate_left
  · intro w hSw; (try dsimp only at hSw); have hc0 := hSw.cell 0; have hc1 := hSw.cell 1; have hl := hSw.lt; clear hSw; go_simp; (try with_reducible rfl)
  try simp only [Act.put, List.setIfInBounds_toArray, List.set_cons_zero, List.set_cons_succ]
  refine wpAnyE_takeL (i := 6) (v := ?_) rfl (by kernel_rfl) (fun _ _ _ h => h) (Or.inl ⟨by rfl, ?_⟩) hS ?_
  rotate_left
  · intro w hSw; (try dsimp only at hSw); have hc0 := hSw.cell 0; have hc1 := hSw.cell 1; have hl := hSw.lt; clear hSw; go_simp; (try with_reducible rfl)
  try simp only [Act.put, List.setIfInBounds_toArray, List.set_cons_zero, List.set_cons_succ]
  refine wpAnyE_takeL (i := 7) (v := ?_) rfl (by kernel_rfl) (fun _ _ _ h => h) (Or.inl ⟨by rfl, ?_⟩) hS ?_
  rotate_left
  · intro w hSw; (try dsimp only at hSw); have hc0 := hSw.cell 0; have hc1 := hSw.cell 1; have hl := hSw.lt; clear hSw; go_simp; (try with_reducible rfl)
  try simp only [Act.put, List.setIfInBounds_toArray, List.set_cons_zero, List.set_cons_succ]
  refine wpAnyE_takeL (i := 8) (v := ?_) rfl (by kernel_rfl) (fun _ _ _ h => h) (Or.inl ⟨by rfl, ?_⟩) hS ?_
  rotate_left
  · intro w hSw; (try dsimp only at hSw); have hc0 := hSw.cell 0; have hc1 := hSw.cell 1; have hl := hSw.lt; clear hSw; go_simp; (try with_reducible rfl)
  try simp only [Act.put, List.setIfInBounds_toArray, List.set_cons_zero, List.set_cons_succ]
  refine wpAnyE_oneL (k := 4) (by kernel_rfl) rfl (fun K hK => ?_)
  go_simp
  go_at_call 122
  refine (HO.out m hm2 _ (HD0.out.by (below_of_drewN wA 1))).mono ?_
  rintro e w1 ⟨v1, z1, rfl, hl1, hB1, hD1, hW1⟩
  obtain ⟨b1, d1, rfl⟩ := hB1.sized
  have kB1 : Blk w1 w.heap.size _ 35 := hW1.blk kB.drew (by omega)
  have kR1 : Blk w1 (w.heap.size + 1) _ 29 := hW1.blk kR.drew (by omega)
  have HB1 := Lib.hid (show BldI w1 wA.heap.size w1.heap.size _ _ from hB1)
  have HD1 := Lib.hid hD1
  have HW1 := Lib.hid ((hW0.drewN 1).on hW1)
  have HL1 := Lib.hid hl1
  have hs1 : wA.heap.size ≤ w1.heap.size := hW1.size
  clear hB1 hD1 hl1 hW1 kB kR HD0 hW0
  refine hK.out _ _ (fun _ => kB1) ?_
  try simp only [Act.put, List.setIfInBounds_toArray, List.set_cons_zero, List.set_cons_succ]
  refine wpAnyE_oneL (k := 9) (by kernel_rfl) rfl (fun K hK => ?_)
  go_simp
  go_at_call 122
  refine (HO.out L hL _ HD1.out).mono ?_
  rintro e w2 ⟨v2, z2, rfl, hl2, hB2, hD2, hW2⟩
  obtain ⟨b2, d2, rfl⟩ := hB2.sized
  have kB2 : Blk w2 w.heap.size _ 35 := hW2.blk kB1 (by omega)
  have kR2 : Blk w2 (w.heap.size + 1) _ 29 := hW2.blk kR1 (by omega)
  have HO1 := Lib.hid (HB1.out.past hW2 (.inl (by omega))).own
  have HO2 := Lib.hid hB2.own
  have HD2 := Lib.hid hD2
  have HW2 := Lib.hid (HW1.out.on hW2)
  have HL2 := Lib.hid hl2
  have hs2 := hW2.size
  clear hB2 hD2 hl2 hW2 kB1 kR1 HB1 HD1 HW1 hS
  refine hK.out _ _ (fun _ => kB2) ?_
  try simp only [Act.put, List.setIfInBounds_toArray, List.set_cons_zero, List.set_cons_succ]
  refine wpAnyE_oneL (k := 10) (by kernel_rfl) rfl (fun K hK => ?_)
  go_simp
  refine hK.out _ _ (fun _ => kB2) ?_
  try simp only [Act.put, List.setIfInBounds_toArray, List.set_cons_zero, List.set_cons_succ]
  have qR := kR2.cell
  have fR := kR2.free
  have lR := kR2.lt
  refine wpAnyE_oneL (k := 11) (by kernel_rfl) rfl (fun K hK => ?_)
  go_simp
  refine hK.out _ _ (fun h => absurd rfl h) ?_
  refine wpAnyE_done (by kernel_rfl) ?_ _
  go_wp2
  have hfin : ∀ (y0 y1 : Value), ((w2.setCell ⟨w.heap.size + 1, 0, none⟩ y0).setCell ⟨w.heap.size + 1, 1, none⟩ y1).heap.size = w2.heap.size := fun _ _ => by simp
  refine bodyPost_ret (v := .agg #[.slice b1 z1.length d1, .slice b2 z2.length d2]) (by simp [results, Tryz.results72, go_sem, *]) rfl ⟨_, _, z1, z2, rfl, by have := HL1.out; omega, by have := HL2.out; omega, ?_, ?_, ?_, ?_⟩
  · exact OwnR.wideM ((HO1.out.offM kR2).offM (kR2.set _ _)) (by omega) (by rw [hfin]; omega)
  · exact OwnR.wideM ((HO2.out.offM kR2).offM (kR2.set _ _)) (by omega) (by rw [hfin]; omega)
  · exact (HD2.out.apart (by omega) (by omega)).apart (by omega) (by omega)
  · exact (HW2.out.new _ _ _ (by omega)).new _ _ _ (by omega)
def BldD (w : World) (lo hi : Nat) (v : Value) (ds : List Dv) : Prop := hi ≤ w.heap.size ∧ ∃ (pvs : List Value) (f : Nat → Nat), w.ownsRow lo 62 4 v ds.length (dcells ds pvs) ∧ pvs.length = ds.length ∧ (∀ g, v.ownBlock = some g → lo ≤ g ∧ g < hi) ∧
  (∀ i x pv, ds[i]? = some x → pvs[i]? = some pv → BldI w (f i) (f i + 1) pv x.pins ∧ (lo ≤ f i ∧ f i < hi) ∧ v.ownBlock ≠ some (f i)) ∧ (∀ i j, i < ds.length → j < ds.length → i ≠ j → f i ≠ f j)
section
variable {w w' : World} {lo hi : Nat} {v : Value} {ds : List Dv}
theorem BldD.nil (w : World) (lo : Nat) : BldD w lo w.heap.size (.slice none 0 0) [] :=
  ⟨Nat.le_refl _, [], fun _ => 0, World.ownsRow_nil w lo _ 4, rfl, (by intro g h; cases h), (by intro i x pv h; simp at h), (by intro i j h; simp at h)⟩
theorem BldD.by (hb : Below w.heap.size w w') (h : BldD w lo hi v ds) : BldD w' lo hi v ds := by
  obtain ⟨hs, pvs, f, h1, h2, h3, h4, h5⟩ := h
  refine ⟨Nat.le_trans hs hb.size, pvs, f, row_same h1 (fun g hg => hb.block g (by have := h3 g hg; omega)), h2, h3, fun i x pv hx hp => ?_, h5⟩
  obtain ⟨a, b, c⟩ := h4 i x pv hx hp
  exact ⟨BldI.by hb a, b, c⟩
theorem BldD.past {lo' hi' : Nat} (hb : Within lo' hi' w w') (h : BldD w lo hi v ds) (hd : hi' ≤ lo ∨ hi ≤ lo') : BldD w' lo hi v ds := by
  obtain ⟨hs, pvs, f, h1, h2, h3, h4, h5⟩ := h
  refine ⟨Nat.le_trans hs hb.size, pvs, f, row_same h1 (fun g hg => hb.block g (by have := h3 g hg; omega) (by have := h3 g hg; omega)), h2, h3, fun i x pv hx hp => ?_, h5⟩
  obtain ⟨a, b, c⟩ := h4 i x pv hx hp
  exact ⟨BldI.past hb a (by omega), b, c⟩
theorem BldD.sized (h : BldD w lo hi v ds) : ∃ a c, v = .slice a ds.length c := by
  obtain ⟨_, pvs, f, ⟨_, h1⟩, _⟩ := h
  rcases h1 with ⟨h1, h2⟩ | ⟨g, cap, cur, e1, _⟩
  · exact ⟨none, 0, by rw [h1, h2]⟩
  · exact ⟨_, _, e1⟩
theorem BldD.own (h : BldD w lo hi v ds) : OwnDs w lo hi v ds := by
  obtain ⟨hs, pvs, f, ⟨hlen, h1⟩, h2, h3, h4, h5⟩ := h
  rcases h1 with ⟨h1, hn⟩ | ⟨g, cap, cur, e1, e2, e3, e4, e5, e6, e7⟩
  · exact .inl ⟨_, _, h1, List.eq_nil_of_length_eq_zero hn⟩
  · have hcur : ∀ (j : Nat) u, (dcells ds pvs)[j]? = some u → cur[j]? = some u := by
      intro j u hu
      rw [← e7] at hu
      have hj : j < ds.length * 4 := by
        have := (List.getElem?_eq_some_iff.1 hu).1
        rw [List.length_take] at this; omega
      rw [List.getElem?_take_of_lt hj] at hu
      simpa using hu
    refine .inr ⟨g, cap, cur, f, e1, h3 g (by rw [e1]; rfl), e4, e5, e3, fun i x hx => ?_, h5⟩
    have hi : i < ds.length := (List.getElem?_eq_some_iff.1 hx).1
    obtain ⟨pv, hp⟩ : ∃ pv, pvs[i]? = some pv := ⟨pvs[i]'(by omega), List.getElem?_eq_getElem (by omega)⟩
    obtain ⟨a, b, c⟩ := h4 i x pv hx hp
    obtain ⟨q0, q1, q2, q3⟩ := dcells_get ds pvs i x pv hx hp
    refine ⟨⟨pv, ⟨hcur _ _ q0, hcur _ _ q1, hcur _ _ q2, hcur _ _ q3⟩, a.own⟩, b.1, b.2, fun e => c (by rw [e1, e]; rfl)⟩
end
theorem step_pushD {ops : Array Oper} {o : Oper} {a : Act} {w : World} {K : Act → World → Prop} {Q : Exit → Act → World → Prop} {E : Prop} (hgd : o.guard = none) (s x : Operand)
    (ho : o.op = .call { callee := .builtin .append, args := #[s, x], argTypes := #[32, 32] })
    (lo hi : Nat) (v : Value) (ds : List Dv) (hs : a.eval s = v) (hB : BldD w lo hi v ds) (nb : Nat) (d : Dv) (pv : Value) (fb : Nat) (hx : a.eval x = .slice (some ⟨nb, 0, none⟩) 1 1)
    (hnb : Blk w nb #[.int .i64 d.kind, pv, .int .i64 d.wd, .int .i64 d.len] 62) (hpv : BldI w fb (fb + 1) pv d.pins) (hlo : lo ≤ hi) (hhi : hi ≤ fb) (hfb : fb < w.heap.size) (hn : ds.length ≤ 1000)
    (hK : ∀ a' c' w', BldD w' lo w'.heap.size (.slice a' (ds.length + 1) c') (ds ++ [d]) → Within lo hi w w' → K (a.put o.dst (.slice a' (ds.length + 1) c')) w') :
    if Region.wanted o (yielded ops a.tmps) = true then Oper.wp Tryz.prog o a w K Q else E := by
  obtain ⟨i0, hi0, hz0, hz1, hz2⟩ := info_parts infoDev
  obtain ⟨hsz, pvs, f, h1, h2, h3, h4, h5⟩ := hB
  have hone : pv.oneCell' = true := by
    obtain ⟨_, _, rfl⟩ := hpv.sized
    rfl
  refine step_append_lies w hgd s x 32 ho lo 62 i0 _ 4 48 Tryz.underlying32 hi0 hz0 hz1 hz2 rfl (by decide) v ds.length _ hs h1 ⟨nb, 0, none⟩ 1 1 [.int .i64 d.kind, pv, .int .i64 d.wd, .int .i64 d.len] hx rfl (World.news_of_block (cs := #[.int .i64 d.kind, pv, .int .i64 d.wd, .int .i64 d.len]) hnb) ?_ (by decide) (by unfold maxLen; omega) (by omega) (by omega) w.heap.size rfl ?_
  · intro u hu
    simp at hu
    rcases hu with rfl | rfl | rfl | rfl
    · rfl
    · exact hone
    · rfl
    · rfl
  · intro g cap w' hrow hgrow hg hgl
    have hW : Within lo hi w w' := grown_within hgrow h3
    refine hK (some ⟨g, 0, none⟩) cap w' ⟨Nat.le_refl _, pvs ++ [pv], fun i => if i = ds.length then fb else f i, ?_, by simp [h2], ?_, ?_, ?_⟩ hW
    · rw [List.length_append, List.length_singleton, dcells_push ds pvs d pv h2]; exact hrow
    · intro g' hg'
      have : g = g' := by injection hg'
      subst this
      rcases hg with h | h
      · have := h3 g h; omega
      · omega
    · intro i y pv' hy hp'
      by_cases hi' : i < ds.length
      · rw [List.getElem?_append_left hi'] at hy
        rw [List.getElem?_append_left (by omega)] at hp'
        obtain ⟨a1, b1, c1⟩ := h4 i y pv' hy hp'
        simp only [if_neg (show i ≠ ds.length by omega)]
        have hsep : ∀ g0, v.ownBlock = some g0 → g0 ≠ f i := fun g0 e1 e2 => c1 (by rw [e1, e2])
        refine ⟨?_, by have := hgrow.size; omega, ?_⟩
        · cases hv : v.ownBlock with
          | none => exact BldI.by ⟨hgrow.os, hgrow.tape, hgrow.output, hgrow.size, fun k hk => hgrow.block k hk (by rw [hv]; simp)⟩ a1
          | some g0 => exact BldI.past (grown_within (lo := g0) (hi := g0 + 1) hgrow (fun g1 e => by rw [hv] at e; cases e; omega)) a1 (by have := hsep g0 hv; omega)
        · intro e
          have : g = f i := by injection e
          rcases hg with h | h
          · exact hsep g h this
          · omega
      · have hil : i < (ds ++ [d]).length := (List.getElem?_eq_some_iff.1 hy).1
        simp at hil
        obtain rfl : i = ds.length := by omega
        rw [List.getElem?_append_right (Nat.le_refl _)] at hy
        rw [List.getElem?_append_right (by omega)] at hp'
        simp [h2] at hy hp'
        subst hy hp'
        simp only [if_true]
        refine ⟨BldI.past hW hpv (by omega), by have := hgrow.size; omega, ?_⟩
        intro e
        have : g = fb := by injection e
        rcases hg with h | h
        · have := h3 g h; omega
        · omega
    · intro i j hi' hj' hij
      simp at hi' hj'
      by_cases e1 : i = ds.length
      · subst e1
        obtain ⟨y, hy⟩ : ∃ y, ds[j]? = some y := ⟨ds[j]'(by omega), List.getElem?_eq_getElem (by omega)⟩
        obtain ⟨p, hp⟩ : ∃ p, pvs[j]? = some p := ⟨pvs[j]'(by omega), List.getElem?_eq_getElem (by omega)⟩
        have := (h4 j y p hy hp).2.1
        simp only [if_true, if_neg (show j ≠ ds.length by omega)]
        omega
      · by_cases e2 : j = ds.length
        · subst e2
          obtain ⟨y, hy⟩ : ∃ y, ds[i]? = some y := ⟨ds[i]'(by omega), List.getElem?_eq_getElem (by omega)⟩
          obtain ⟨p, hp⟩ : ∃ p, pvs[i]? = some p := ⟨pvs[i]'(by omega), List.getElem?_eq_getElem (by omega)⟩
          have := (h4 i y p hy hp).2.1
          simp only [if_true, if_neg e1]
          omega
        · simp only [if_neg e1, if_neg e2]
          exact h5 i j (by omega) (by omega) hij
theorem list_pushD {ops : Array Oper} {rest : List Oper} {o : Oper} {a : Act} {w : World} {Q : Exit → Act → World → Prop} (hgd : o.guard = none) (s x : Operand)
    (ho : o.op = .call { callee := .builtin .append, args := #[s, x], argTypes := #[32, 32] })
    (lo hi : Nat) (v : Value) (ds : List Dv) (hs : a.eval s = v) (hB : BldD w lo hi v ds) (nb : Nat) (d : Dv) (pv : Value) (fb : Nat) (hx : a.eval x = .slice (some ⟨nb, 0, none⟩) 1 1)
    (hnb : Blk w nb #[.int .i64 d.kind, pv, .int .i64 d.wd, .int .i64 d.len] 62) (hpv : BldI w fb (fb + 1) pv d.pins) (hlo : lo ≤ hi) (hhi : hi ≤ fb) (hfb : fb < w.heap.size) (hn : ds.length ≤ 1000)
    (hK : ∀ a' c' w', BldD w' lo w'.heap.size (.slice a' (ds.length + 1) c') (ds ++ [d]) → Within lo hi w w' → wpList Tryz.prog ops Q rest (a.put o.dst (.slice a' (ds.length + 1) c')) w') : wpList Tryz.prog ops Q (o :: rest) a w :=
  wpList_plain hgd fun K hk => by
    have h := step_pushD (ops := ops) (K := K) (Q := Q) (E := False) hgd s x ho lo hi v ds hs hB nb d pv fb hx hnb hpv hlo hhi hfb hn (fun a' c' w' h1 h2 => hk _ _ (hK a' c' w' h1 h2))
    rwa [if_pos (by simp [Region.wanted, hgd])] at h
/- l27Own with pins that may grow afterwards. -/
section
variable {w : World} {sv : Value} {zs : List Int}
theorem clone_runB (h : IntSl w sv zs) (hne : zs ≠ []) (hn : zs.length ≤ 1048576) (b : Nat) (ty : TypeId) :
    ∃ v w', (Builtin.append_ #[27, 27] ty #[.slice (some ⟨b, 0, none⟩) 0 0, sv]).run Tryz.prog w = .ok v w' ∧ BldI w' w.heap.size (w.heap.size + 1) v zs ∧ w'.heap.size = w.heap.size + 1 ∧ Below w.heap.size w w' := by
  obtain ⟨i0, hi, hz0, hz1, hz2⟩ := info_parts infoI
  have hS := src_ints h
  have hl : 0 < zs.length := List.length_pos_iff.2 hne
  have hr := run_append_grow_src (P := Tryz.prog) w 27 27 ty 2 i0 _ Tryz.underlying27 hi hz0 (some ⟨b, 0, none⟩) 0 0 [] (by rw [hz1]; exact run_firstCells_some w.drew 1 0 _ 0 0 [] rfl (by simp)) sv zs.length (zs.map (Value.int .i64)) (by rw [hz1]; exact hS) (by omega) (by omega)
    (by rw [hz2]; simp only [Builtin.nextslicecap, Nat.mul_zero, Nat.zero_add]; rw [if_pos (by omega)]; omega)
  have hcap := grownCap_ge w (0 + zs.length) 0 2
  have hmx := grownCap_le_maxLen w (0 + zs.length) 0 2 (by unfold maxLen; omega)
  refine ⟨_, _, hr, ⟨by simp, ⟨by simp [icells], .inr ⟨w.heap.size, grownCap w (0 + zs.length) 0 2, _, by rw [Nat.zero_add], Nat.le_refl _, Blk.new _ rfl, by omega, hmx, ?_, ?_⟩⟩, ?_⟩, by simp, ((Below.refl _ _).drew).alloc (Nat.le_refl _) _⟩
  · rw [Nat.zero_add] at hcap
    simp [Builtin.zeroCells, Value.cells]
    omega
  · rw [Array.toList_append, Nat.mul_one, List.take_append_of_le_length (by simp), List.take_of_length_le (by simp)]
    simp [icells]
  · intro g hg
    have : w.heap.size = g := by injection hg
    omega
end
theorem step_cloneB {ops : Array Oper} {o : Oper} {a : Act} {w : World} {K : Act → World → Prop} {Q : Exit → Act → World → Prop} {E : Prop} (hgd : o.guard = none) (s x : Operand)
    (ho : o.op = .call { callee := .builtin .append, args := #[s, x], argTypes := #[27, 27] })
    (b : Nat) (hs : a.eval s = .slice (some ⟨b, 0, none⟩) 0 0) (sv : Value) (zs : List Int) (hx : a.eval x = sv) (h : IntSl w sv zs) (hne : zs ≠ []) (hn : zs.length ≤ 1048576)
    (hK : ∀ v w' g, BldI w' g (g + 1) v zs → w.heap.size ≤ g → Below w.heap.size w w' → K (a.put o.dst v) w') :
    if Region.wanted o (yielded ops a.tmps) = true then Oper.wp Tryz.prog o a w K Q else E := by
  have hw : Region.wanted o (yielded ops a.tmps) = true := by simp [Region.wanted, hgd]
  rw [if_pos hw]
  obtain ⟨v, w', hr, h2, h4, h3⟩ := clone_runB h hne hn b o.type
  unfold Oper.wp execOp
  simp only [ho, resolve, invoke, builtin, Sem.run_bind, Sem.run_pure, Result.andThen_ok, List.map_toArray, List.map_cons, List.map_nil, hs, hx, hr]
  exact hK v w' _ h2 (Nat.le_refl _) h3
set_option maxRecDepth 100000 in
set_option maxHeartbeats 1000000 in
theorem own_bld (kind wd len : Int) (sv : Value) (zs : List Int) (w : World) (h : IntSl w sv zs) (hne : zs ≠ []) (hn : zs.length ≤ 1048576) :
    Calls Tryz.prog 109 #[.agg #[.int .i64 kind, sv, .int .i64 wd, .int .i64 len]] w fun e w' => ∃ v g, e = .returned (.agg #[.int .i64 kind, v, .int .i64 wd, .int .i64 len]) ∧ BldI w' g (g + 1) v zs ∧ w.heap.size ≤ g ∧ Below w.heap.size w w' := by
  obtain ⟨a, c, rfl⟩ := h.len
  have HNE := Lib.hid hne
  clear hne
  go_enter Tryz.func109, Tryz.ntmps109
  go_wp2_with fail
  go_region_held_law ((fun w' => (Blk w' (w.heap.size) #[.int .i64 kind, .slice a zs.length c, .int .i64 wd, .int .i64 len] 62 ∧ ∀ o, w'.cell? ⟨w.heap.size, o, none⟩ = (#[.int .i64 kind, .slice a zs.length c, .int .i64 wd, .int .i64 len] : Array Value)[o]?) ∧ Below w.heap.size w w')) (((try (obtain ⟨⟨hS0, _⟩, hSB⟩ := hHeld)); refine ⟨Blk.both ?_, ?_⟩ <;> first | ((repeat (first | (with_reducible assumption) | (with_reducible refine Blk.drewN ?_ _) | (with_reducible refine Blk.drew ?_) | ((with_reducible refine Blk.new _ ?_); focus (first | omega | (simp; done) | (simp; omega))) | (with_reducible refine Blk.past ?_ _) | ((with_reducible refine Blk.apart ?_ _ _ _ ?_); rotate_left; focus (first | omega | (simp; done) | (simp; omega))) | (with_reducible refine Blk.by (by assumption) ?_))); done) | ((repeat (first | (with_reducible exact Below.refl _ _) | (with_reducible refine below_drewN ?_ _) | (with_reducible refine Below.drew ?_) | (with_reducible refine below_al ?_ _) | (with_reducible refine below_on (by assumption) ?_) | ((with_reducible refine Below.setCell ?_ ?_ _); rotate_left; focus (first | omega | (simp; done) | (simp; omega))) | (with_reducible assumption))); done)))
    ((refine step_cloneB (by rfl) _ _ (by rfl) _ (by rfl) _ zs (by rfl) (h.by blwT) HNE.out hn ?_; intro v w3 g hO hg3 hb3; (try simp at hg3); have HO := Lib.hid hO; obtain ⟨a1, c1, rfl⟩ := hO.sized; clear hO; have k2 : Blk w3 (w.heap.size + 1) #[.int .i64 0, .slice none 0 0, .int .i64 0, .int .i64 0] 62 := blkT; have c2 := k2.cell; have f2 := k2.free; have l2 := k2.lt))
  go_wp2
  refine bodyPost_ret (v := .agg #[.int .i64 kind, .slice a1 zs.length c1, .int .i64 wd, .int .i64 len]) (by simp [results, Tryz.results109, go_sem, *]) rfl ⟨_, g, rfl, ?_, by omega, blwT⟩
  repeat (first | (with_reducible exact HO.out) | (with_reducible refine BldI.past (Within.off _) ?_ (.inl (by omega))))
/- A slice of devices that grows; the pins lie elsewhere. -/
def BldR (w : World) (lo hi : Nat) (v : Value) (ds : List Dv) (pvs : List Value) : Prop := hi ≤ w.heap.size ∧ w.ownsRow lo 62 4 v ds.length (dcells ds pvs) ∧ pvs.length = ds.length ∧ (∀ g, v.ownBlock = some g → lo ≤ g ∧ g < hi)
section
variable {w w' : World} {lo hi : Nat} {v : Value} {ds : List Dv} {pvs : List Value}
theorem BldR.nil (w : World) (lo : Nat) : BldR w lo w.heap.size (.slice none 0 0) [] [] :=
  ⟨Nat.le_refl _, World.ownsRow_nil w lo _ 4, rfl, (by intro g h; cases h)⟩
theorem BldR.by (hb : Below w.heap.size w w') (h : BldR w lo hi v ds pvs) : BldR w' lo hi v ds pvs := by
  obtain ⟨hs, h1, h2, h3⟩ := h
  exact ⟨Nat.le_trans hs hb.size, row_same h1 (fun g hg => hb.block g (by have := h3 g hg; omega)), h2, h3⟩
theorem BldR.past {lo' hi' : Nat} (hb : Within lo' hi' w w') (h : BldR w lo hi v ds pvs) (hd : hi' ≤ lo ∨ hi ≤ lo') : BldR w' lo hi v ds pvs := by
  obtain ⟨hs, h1, h2, h3⟩ := h
  exact ⟨Nat.le_trans hs hb.size, row_same h1 (fun g hg => hb.block g (by have := h3 g hg; omega) (by have := h3 g hg; omega)), h2, h3⟩
theorem BldR.sized (h : BldR w lo hi v ds pvs) : ∃ a c, v = .slice a ds.length c := by
  obtain ⟨_, ⟨_, h1⟩, _⟩ := h
  rcases h1 with ⟨h1, h2⟩ | ⟨g, cap, cur, e1, _⟩
  · exact ⟨none, 0, by rw [h1, h2]⟩
  · exact ⟨_, _, e1⟩
theorem BldR.ownX {lo' hi' P : Nat} {f : Nat → Nat} (h : BldR w lo hi v ds pvs) (hlo : lo' ≤ lo) (hhi : hi ≤ hi') (hP : P < lo ∨ hi ≤ P)
    (hf : ∀ (i : Nat) (x : Dv) (pv : Value), ds[i]? = some x → pvs[i]? = some pv → OwnR w (f i) (f i + 1) pv x.pins ∧ lo' ≤ f i ∧ f i < lo ∧ f i ≠ P)
    (hi : ∀ i j, i < ds.length → j < ds.length → i ≠ j → f i ≠ f j) : OwnDsX w lo' hi' P v ds := by
  obtain ⟨hs, ⟨hlen, h1⟩, h2, h3⟩ := h
  rcases h1 with ⟨h1, hn⟩ | ⟨g, cap, cur, e1, e2, e3, e4, e5, e6, e7⟩
  · exact .inl ⟨_, _, h1, List.eq_nil_of_length_eq_zero hn⟩
  · have hcur : ∀ (j : Nat) u, (dcells ds pvs)[j]? = some u → cur[j]? = some u := by
      intro j u hu
      rw [← e7] at hu
      have hj : j < ds.length * 4 := by
        have := (List.getElem?_eq_some_iff.1 hu).1
        rw [List.length_take] at this; omega
      rw [List.getElem?_take_of_lt hj] at hu
      simpa using hu
    have hg := h3 g (by rw [e1]; rfl)
    refine .inr ⟨g, cap, cur, f, e1, by omega, e4, e5, e3, fun i x hx => ?_, hi⟩
    have hil : i < ds.length := (List.getElem?_eq_some_iff.1 hx).1
    obtain ⟨pv, hp⟩ : ∃ pv, pvs[i]? = some pv := ⟨pvs[i]'(by omega), List.getElem?_eq_getElem (by omega)⟩
    obtain ⟨a, b, c, d⟩ := hf i x pv hx hp
    obtain ⟨q0, q1, q2, q3⟩ := dcells_get ds pvs i x pv hx hp
    exact ⟨⟨pv, ⟨hcur _ _ q0, hcur _ _ q1, hcur _ _ q2, hcur _ _ q3⟩, a⟩, b, by omega, by omega, d⟩
end
theorem step_pushRB {ops : Array Oper} {o : Oper} {a : Act} {w : World} {K : Act → World → Prop} {Q : Exit → Act → World → Prop} {E : Prop} (hgd : o.guard = none) (s x : Operand)
    (ho : o.op = .call { callee := .builtin .append, args := #[s, x], argTypes := #[32, 32] })
    (lo hi : Nat) (v : Value) (ds : List Dv) (pvs : List Value) (hs : a.eval s = v) (hB : BldR w lo hi v ds pvs) (nb : Nat) (d : Dv) (pv : Value) (hx : a.eval x = .slice (some ⟨nb, 0, none⟩) 1 1)
    (hnb : Blk w nb #[.int .i64 d.kind, pv, .int .i64 d.wd, .int .i64 d.len] 62) (hone : pv.oneCell' = true) (hlo : lo ≤ hi) (hn : ds.length ≤ 1000)
    (hK : ∀ a' c' w', BldR w' lo w'.heap.size (.slice a' (ds.length + 1) c') (ds ++ [d]) (pvs ++ [pv]) → Within lo hi w w' → K (a.put o.dst (.slice a' (ds.length + 1) c')) w') :
    if Region.wanted o (yielded ops a.tmps) = true then Oper.wp Tryz.prog o a w K Q else E := by
  obtain ⟨i0, hi0, hz0, hz1, hz2⟩ := info_parts infoDev
  obtain ⟨hsz, h1, h2, h3⟩ := hB
  refine step_append_lies w hgd s x 32 ho lo 62 i0 _ 4 48 Tryz.underlying32 hi0 hz0 hz1 hz2 rfl (by decide) v ds.length _ hs h1 ⟨nb, 0, none⟩ 1 1 [.int .i64 d.kind, pv, .int .i64 d.wd, .int .i64 d.len] hx rfl (World.news_of_block (cs := #[.int .i64 d.kind, pv, .int .i64 d.wd, .int .i64 d.len]) hnb) ?_ (by decide) (by unfold maxLen; omega) (by omega) (by omega) w.heap.size rfl ?_
  · intro u hu
    simp at hu
    rcases hu with rfl | rfl | rfl | rfl
    · rfl
    · exact hone
    · rfl
    · rfl
  · intro g cap w' hrow hgrow hg hgl
    have hW : Within lo hi w w' := grown_within hgrow h3
    refine hK (some ⟨g, 0, none⟩) cap w' ⟨Nat.le_refl _, ?_, by simp [h2], ?_⟩ hW
    · rw [List.length_append, List.length_singleton, dcells_push ds pvs d pv h2]; exact hrow
    · intro g' hg'
      have : g = g' := by injection hg'
      subst this
      rcases hg with h | h
      · have := h3 g h; omega
      · omega
/- A slice of devices that grows in memory of the call's own; the pins of one device lie elsewhere, at a block m below it. -/
def BldM (m : Nat) (av : Prop) (w : World) (lo hi : Nat) (v : Value) (ds : List Dv) : Prop := hi ≤ w.heap.size ∧ ∃ (pvs : List Value) (f : Nat → Nat), w.ownsRow lo 62 4 v ds.length (dcells ds pvs) ∧ pvs.length = ds.length ∧ (∀ g, v.ownBlock = some g → lo ≤ g ∧ g < hi) ∧
  (∀ i x pv, ds[i]? = some x → pvs[i]? = some pv → OwnR w (f i) (f i + 1) pv x.pins ∧ ((f i = m ∧ ¬ av) ∨ (lo ≤ f i ∧ f i < hi)) ∧ v.ownBlock ≠ some (f i)) ∧ (∀ i j, i < ds.length → j < ds.length → i ≠ j → f i ≠ f j)
section
variable {m : Nat} {av : Prop} {w w' : World} {lo hi : Nat} {v : Value} {ds : List Dv}
theorem BldM.nil (m : Nat) (av : Prop) (w : World) (lo : Nat) : BldM m av w lo w.heap.size (.slice none 0 0) [] :=
  ⟨Nat.le_refl _, [], fun _ => 0, World.ownsRow_nil w lo _ 4, rfl, (by intro g h; cases h), (by intro i x pv h; simp at h), (by intro i j h; simp at h)⟩
theorem BldM.sub {av' : Prop} (h : BldM m av w lo hi v ds) (ha : av' → av) : BldM m av' w lo hi v ds := by
  obtain ⟨hs, pvs, f, h1, h2, h3, h4, h5⟩ := h
  refine ⟨hs, pvs, f, h1, h2, h3, fun i x pv hx hp => ?_, h5⟩
  obtain ⟨a, b, c⟩ := h4 i x pv hx hp
  exact ⟨a, b.imp (fun h => ⟨h.1, fun k => h.2 (ha k)⟩) id, c⟩
theorem BldM.by (hb : Below w.heap.size w w') (h : BldM m av w lo hi v ds) : BldM m av w' lo hi v ds := by
  obtain ⟨hs, pvs, f, h1, h2, h3, h4, h5⟩ := h
  refine ⟨Nat.le_trans hs hb.size, pvs, f, row_same h1 (fun g hg => hb.block g (by have := h3 g hg; omega)), h2, h3, fun i x pv hx hp => ?_, h5⟩
  obtain ⟨a, b, c⟩ := h4 i x pv hx hp
  exact ⟨OwnR.by hb a, b, c⟩
theorem BldM.past {lo' hi' : Nat} (hb : Within lo' hi' w w') (h : BldM m av w lo hi v ds) (hd : hi' ≤ lo ∨ hi ≤ lo') (hm : m < lo' ∨ hi' ≤ m) : BldM m av w' lo hi v ds := by
  obtain ⟨hs, pvs, f, h1, h2, h3, h4, h5⟩ := h
  refine ⟨Nat.le_trans hs hb.size, pvs, f, row_same h1 (fun g hg => hb.block g (by have := h3 g hg; omega) (by have := h3 g hg; omega)), h2, h3, fun i x pv hx hp => ?_, h5⟩
  obtain ⟨a, b, c⟩ := h4 i x pv hx hp
  exact ⟨OwnR.past hb a (by omega), b, c⟩
theorem BldM.sized (h : BldM m av w lo hi v ds) : ∃ a c, v = .slice a ds.length c := by
  obtain ⟨_, pvs, f, ⟨_, h1⟩, _⟩ := h
  rcases h1 with ⟨h1, h2⟩ | ⟨g, cap, cur, e1, _⟩
  · exact ⟨none, 0, by rw [h1, h2]⟩
  · exact ⟨_, _, e1⟩
theorem BldM.ownX {lo0 P : Nat} (h : BldM m av w lo hi v ds) (h0 : lo0 ≤ m) (hm : m < lo) (hm' : m < hi) (hP : P < lo) (hP' : P ≠ m) : OwnDsX w lo0 hi P v ds := by
  obtain ⟨hs, pvs, f, ⟨hlen, h1⟩, h2, h3, h4, h5⟩ := h
  rcases h1 with ⟨h1, hn⟩ | ⟨g, cap, cur, e1, e2, e3, e4, e5, e6, e7⟩
  · exact .inl ⟨_, _, h1, List.eq_nil_of_length_eq_zero hn⟩
  · have hcur : ∀ (j : Nat) u, (dcells ds pvs)[j]? = some u → cur[j]? = some u := by
      intro j u hu
      rw [← e7] at hu
      have hj : j < ds.length * 4 := by
        have := (List.getElem?_eq_some_iff.1 hu).1
        rw [List.length_take] at this; omega
      rw [List.getElem?_take_of_lt hj] at hu
      simpa using hu
    have hg := h3 g (by rw [e1]; rfl)
    refine .inr ⟨g, cap, cur, f, e1, ⟨by omega, by omega⟩, e4, e5, e3, fun i x hx => ?_, h5⟩
    have hi : i < ds.length := (List.getElem?_eq_some_iff.1 hx).1
    obtain ⟨pv, hp⟩ : ∃ pv, pvs[i]? = some pv := ⟨pvs[i]'(by omega), List.getElem?_eq_getElem (by omega)⟩
    obtain ⟨a, b, c⟩ := h4 i x pv hx hp
    obtain ⟨q0, q1, q2, q3⟩ := dcells_get ds pvs i x pv hx hp
    have hne : f i ≠ g := fun e => c (by rw [e1, e]; rfl)
    exact ⟨⟨pv, ⟨hcur _ _ q0, hcur _ _ q1, hcur _ _ q2, hcur _ _ q3⟩, a⟩, by omega, by omega, hne, by omega⟩
end
theorem Within.newerM {a w w' : World} {lo hi lo' hi' : Nat} (h : Within lo hi a w) (h' : Within lo' hi' w w') (hl : a.heap.size ≤ lo') : Within lo hi a w' :=
  ⟨h'.os.trans h.os, h'.tape.trans h.tape, h'.output.trans h.output, Nat.le_trans h.size h'.size, fun k hk hn => (h'.block k (by have := h.size; omega) (by omega)).trans (h.block k hk hn)⟩
theorem Within.ofBelowM {w w' : World} (lo hi : Nat) (h : Below w.heap.size w w') : Within lo hi w w' := ⟨h.os, h.tape, h.output, h.size, fun k hk _ => h.block k hk⟩
end Go.Proofs.YtifbffianbgeaaaGreat
