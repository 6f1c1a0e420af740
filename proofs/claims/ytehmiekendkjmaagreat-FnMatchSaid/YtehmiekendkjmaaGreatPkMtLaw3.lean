/- Contracts and plain laws, part 3, for the statement's proof. -/
import Derived.Test.YtehmiekendkjmaaGreatPkMtLaw2
import Derived.BigRegion
import Derived.Deep.RegionHeld3
import Derived.Deep.RegionHeldLaw
import Derived.Deep.DeepCutAuto
namespace Go.Proofs.YtehmiekendkjmaaGreat
open Go.RowKit
set_option linter.unusedVariables false
set_option linter.unusedSimpArgs false
theorem icells_set (zs : List Int) (i : Nat) (y : Int) : icells (zs.set i y) = (icells zs).set i (.int .i64 y) := by simp [icells, List.map_set]
theorem BldI.setAt {w : World} {lo hi G n cap : Nat} {zs : List Int} (h : BldI w lo hi (.slice (some ⟨G, 0, none⟩) n cap) zs) (i : Nat) (y : Int) : BldI (w.setCell ⟨G, i, none⟩ (.int .i64 y)) lo hi (.slice (some ⟨G, 0, none⟩) n cap) (zs.set i y) := by
  obtain ⟨hs, ⟨hlen, r⟩, h3⟩ := h
  refine ⟨by simpa using hs, ⟨by simp [icells], ?_⟩, h3⟩
  rcases r with ⟨r1, _⟩ | ⟨g, cap', cur, e1, e2, e3, e4, e5, e6, e7⟩
  · cases r1
  · have hg : G = g := by have := congrArg Value.ownBlock e1; simpa [Value.ownBlock] using this
    subst hg
    refine .inr ⟨G, cap', cur.setIfInBounds i (.int .i64 y), by rw [List.length_set]; exact e1, e2, Blk.set e3 i _, by rw [List.length_set]; exact e4, e5, by simpa using e6, ?_⟩
    rw [icells_set, ← e7, List.length_set, Array.toList_setIfInBounds, List.take_set]
theorem BldI.blk {w : World} {lo hi : Nat} {v : Value} {zs : List Int} (h : BldI w lo hi v zs) (h0 : 0 < zs.length) :
    ∃ G cap cs, v = .slice (some ⟨G, 0, none⟩) zs.length cap ∧ (lo ≤ G ∧ G < hi) ∧ Blk w G cs 2 ∧ ∀ (i : Nat) z, zs[i]? = some z → w.cell? ⟨G, i, none⟩ = some (.int .i64 z) := by
  obtain ⟨hs, ⟨hlen, r⟩, h3⟩ := h
  rcases r with ⟨_, r1⟩ | ⟨g, cap', cur, rfl, e2, e3, e4, e5, e6, e7⟩
  · omega
  · refine ⟨g, cap', cur, rfl, h3 g rfl, e3, fun i z hz => ?_⟩
    have hi : i < zs.length := (List.getElem?_eq_some_iff.1 hz).1
    have : (icells zs)[i]? = some (.int .i64 z) := by simp [icells, hz]
    rw [← e7, List.getElem?_take_of_lt (by omega)] at this
    rw [Blk.cell e3]
    simpa using this
set_option maxRecDepth 100000 in
set_option maxHeartbeats 1000000 in
theorem l27Identity_any (m : Nat) (hm : m ≤ 1000) (w : World) :
    Calls Tryz.prog 84 #[.int .i64 (m : Int)] w fun e w' => ∃ v, e = .returned v ∧ BldI w' w.heap.size w'.heap.size v (iota m) ∧ Below w.heap.size w w' := by
  have HI := Lib.hid (fun k : Nat => show iota (k + 1) = iota k ++ [(k : Int)] by simp [iota, List.range_succ])
  have HL := Lib.hid (fun k : Nat => length_iota k)
  go_enter Tryz.func84, Tryz.ntmps84
  go_wp2
  go_loopw [3, 4] (fun u i wr => ∃ (k hi : Nat), k ≤ m ∧ i = .int .i64 (k : Int) ∧ Hid (BldI wr w.heap.size hi u (iota k)) ∧ w.heap.size < hi ∧ Below w.heap.size w wr) (fun _ i _ => m - (intOf i).toNat)
  case atStart =>
    refine ⟨0, w.heap.size + 1, Nat.zero_le _, rfl, Lib.hid ?_, by omega, blwT⟩
    have hB : Blk (w.alloc (.cells #[] 2)) w.heap.size #[] 2 := Blk.new _ rfl
    exact BldI.lit (zs := []) hB rfl (by simp) (Nat.le_refl _) (by omega) (by simp)
  case round =>
    obtain ⟨k, hi, hk, rfl, HB, hhi, hb⟩ := hrel
    obtain ⟨a, c, rfl⟩ := HB.out.sized
    rw [HL.out k] at HB ⊢
    have hIs := HB.out.1
    have hlk := HL.out k
    have HLK := Lib.hid hlk
    by_cases hlt : k < m
    · have HX := Lib.hid (HI.out k)
      have i1 : (k : Int) < (m : Int) := by omega
      obtain ⟨Z, hZ⟩ : ∃ Z, iota k = Z := ⟨_, rfl⟩
      rw [hZ] at HB HLK HX
      have hzl : Z.length + 1 ≤ 2000 := by rw [HLK.out]; omega
      clear hZ hlk
      go_wp2_with (refine list_pushI (by rfl) _ _ (by rfl) w.heap.size hi (.slice a k c) Z [(k : Int)] (by rfl) (HB.out.by blwT) wr.heap.size 1 #[.int .i64 (k : Int)] (by rfl) (by rfl) (by omega) (Blk.new _ rfl) (by rfl) (by omega) (by omega) ?_; intro a5 c5 w5 hB5 hw5; have HB5 := Lib.hid hB5; rw [HLK.out]; clear hB5)
      have hsz := hw5.size
      simp only [World.size_alloc] at hsz
      refine ⟨⟨k + 1, w5.heap.size, by omega, by go_num, Lib.hid ?_, by omega, hw5.below (below_al hb _) (by omega)⟩, by simp [intOf]; omega⟩
      rw [HX.out]
      have := HB5.out
      rw [HLK.out] at this
      exact this
    · obtain rfl : k = m := by omega
      have i1 : ¬ (k : Int) < (k : Int) := by omega
      have hs := HB.out
      have HB2 := Lib.hid (show BldI wr w.heap.size wr.heap.size (.slice a k c) (iota k) from ⟨Nat.le_refl _, hs.2.1, fun g hg => by have := hs.2.2 g hg; omega⟩)
      clear hs HB
      go_wp2
      go_ret
      exact ⟨_, rfl, HB2.out, hb⟩
theorem Only.within {g : Nat} {w w' : World} (h : Only g w w') : Within g (g + 1) w w' := ⟨h.os, h.tape, h.output, Nat.le_of_eq h.size.symm, fun k _ hne => h.block k (by omega)⟩
theorem BldI.only {g : Nat} {w w' : World} {lo hi : Nat} {v : Value} {zs : List Int} (ho : Only g w w') (h : BldI w lo hi v zs) (hg : g < lo) : BldI w' lo hi v zs := BldI.past ho.within h (.inl (by omega))
set_option maxRecDepth 100000 in
set_option maxHeartbeats 2000000 in
theorem l27DrawOrder_any (W0 : World) (g : Nat) (sv : Value) (n : Nat) (m : Nat) (hm : m ≤ 200) (w : World) (hD : Src1 W0 g sv n w) :
    Calls Tryz.prog 58 #[.pointer (some ⟨g, 0, none⟩), .int .i64 (m : Int)] w fun e w' => ∃ v zs, e = .returned v ∧ zs.length = m ∧ BldI w' w.heap.size w'.heap.size v zs ∧ Src1 W0 g sv n w' ∧ Within g (g + 1) w w' := by
  have HN := Lib.hid (fun q w h hq => l01Next_any W0 g sv n q w h hq)
  have HID := Lib.hid (fun w => l27Identity_any m (by omega) w)
  have hgl := hD.lt
  have HD := Lib.hid hD
  clear hD
  go_enter Tryz.func58, Tryz.ntmps58
  go_wp2_with fail
  refine (HID.out _).mono ?_
  rintro e w1 ⟨v1, rfl, hB1, hb1⟩
  obtain ⟨a, c, rfl⟩ := hB1.sized
  rw [length_iota] at hB1 ⊢
  have hs1 := hb1.size
  have HB1 := Lib.hid hB1
  have HD1 := Lib.hid (HD.out.by hb1)
  have HW1 : Hid (Within g (g + 1) w w1) := Lib.hid ⟨hb1.os, hb1.tape, hb1.output, hb1.size, fun k hk _ => hb1.block k hk⟩
  have hwr : IntKind.i64.wrap ((m : Int) - 1) = (m : Int) - 1 := by simp [IntKind.wrap, IntKind.bits, IntKind.signed]; omega
  clear hB1 hb1
  go_wp2
  go_loopw [6] (fun i wr => ∃ (z : Int) (zs : List Int), (-1 ≤ z ∧ z < m) ∧ i = .int .i64 z ∧ Hid (zs.length = m) ∧ Hid (BldI wr w.heap.size wr.heap.size (.slice a m c) zs) ∧ Hid (Src1 W0 g sv n wr) ∧ Hid (Within g (g + 1) w wr)) (fun i _ => (intOf i).toNat)
  case atStart => exact ⟨(m : Int) - 1, iota m, by omega, (by first | rfl | rw [hwr] | go_num), Lib.hid (length_iota m), HB1, HD1, HW1⟩
  case round =>
    clear HB1 HD1 HW1
    obtain ⟨z, zs, hz, rfl, HZL, HB, HDr, HWr⟩ := hrel
    by_cases hlt : 0 < z
    · obtain ⟨q, rfl⟩ : ∃ q : Nat, z = q := ⟨z.toNat, by omega⟩
      have hwq : IntKind.i64.wrap ((q : Int) + 1) = (q : Int) + 1 := by simp [IntKind.wrap, IntKind.bits, IntKind.signed]; omega
      go_wp2_with fail
      refine (HN.out _ _ HDr.out (by first | omega | (rw [hwq]; omega))).mono ?_
      rintro e w2 ⟨y, rfl, hy0, hy1, hD2, ho2⟩
      have hyq : y ≤ (q : Int) := by first | omega | (rw [hwq] at hy1; omega)
      obtain ⟨k, rfl⟩ : ∃ k : Nat, y = k := ⟨y.toNat, by omega⟩
      have hB2 := BldI.only ho2 HB.out hgl
      have hs2 := ho2.size
      have hzl := HZL.out
      obtain ⟨G, cap, cs, hv, hG, hBk, hcell⟩ := hB2.blk (by omega)
      rw [hzl] at hv
      obtain ⟨rfl, rfl⟩ : a = some ⟨G, 0, none⟩ ∧ c = cap := by simpa using hv
      obtain ⟨xq, hxq⟩ : ∃ x, zs[q]? = some x := ⟨zs[q]'(by omega), List.getElem?_eq_getElem _⟩
      obtain ⟨xk, hxk⟩ : ∃ x, zs[k]? = some x := ⟨zs[k]'(by omega), List.getElem?_eq_getElem _⟩
      have cq := hcell q xq hxq
      have ck := hcell k xk hxk
      have fG := hBk.free
      have lG := hBk.lt
      have HB2 := Lib.hid hB2
      have HD2 := Lib.hid hD2
      have HO2 := Lib.hid ho2
      have hge : W0.heap.size ≤ G := by
        have := HD.out.2.1.size
        omega
      have hgG : g ≠ G := by omega
      have i1 : (0 : Int) ≤ (q : Int) := by omega
      have i2 : (q : Int) < (m : Int) := by omega
      have i3 : (0 : Int) ≤ (k : Int) := by omega
      have i4 : (k : Int) < (m : Int) := by omega
      have HZL2 := Lib.hid hzl
      clear hv hcell hBk hB2 hD2 ho2 hxq hxk hzl HZL HB HDr
      have h1 := HB2.out.setAt q xk
      have h2 := h1.setAt k xq
      have hW2 : Within g (g + 1) w w2 := HWr.out.on HO2.out.within
      have hWs : ∀ v1 v2, Within g (g + 1) w ((w2.setCell ⟨G, q, none⟩ v1).setCell ⟨G, k, none⟩ v2) := fun v1 v2 => (hW2.new G q v1 (by omega)).new G k v2 (by omega)
      have HFIN := Lib.hid (show BldI ((w2.setCell ⟨G, q, none⟩ (.int .i64 xk)).setCell ⟨G, k, none⟩ (.int .i64 xq)) w.heap.size ((w2.setCell ⟨G, q, none⟩ (.int .i64 xk)).setCell ⟨G, k, none⟩ (.int .i64 xq)).heap.size (.slice (some ⟨G, 0, none⟩) m c) ((zs.set q xk).set k xq) from ⟨Nat.le_refl _, h2.2.1, fun g' hg' => by have := h2.2.2 g' hg'; simp at this ⊢; omega⟩)
      have HWS := Lib.hid (hWs (.int .i64 xk) (.int .i64 xq))
      have HDF := Lib.hid ((HD2.out.apart (o := q) (v := .int .i64 xk) hgG hge).apart (o := k) (v := .int .i64 xq) hgG hge)
      clear h1 h2 hW2 hWs
      by_cases hqk : q = k
      · subst hqk
        obtain rfl : xq = xk := by rw [cq] at ck; simpa using ck
        go_wp2
        exact ⟨⟨(q : Int) - 1, (zs.set q xq).set q xq, by omega, by go_num, Lib.hid (by simp [HZL2.out]), Lib.hid HFIN.out, Lib.hid HDF.out, Lib.hid HWS.out⟩, by simp [intOf]; omega⟩
      · have hkq : ¬ k = q := fun e => hqk e.symm
        go_wp2
        exact ⟨⟨(q : Int) - 1, (zs.set q xk).set k xq, by omega, by go_num, Lib.hid (by simp [HZL2.out]), Lib.hid HFIN.out, Lib.hid HDF.out, Lib.hid HWS.out⟩, by simp [intOf]; omega⟩
    · have i1 : ¬ (0 : Int) < z := hlt
      go_wp2
      go_ret
      first | exact ⟨_, zs, rfl, HZL.out, HB.out, HDr.out, HWr.out⟩ | exact ⟨_, rfl, zs, HZL.out, HB.out, HDr.out, HWr.out⟩
/- The draw of two orders, and of a matching. -/
theorem Blk.differ2 {w : World} {g : Nat} {a b : Array Value} {T1 T2 : TypeId} (h1 : Blk w g a T1) (h2 : Blk w g b T2) : T1 = T2 := by
  have h := h1.symm.trans h2
  injection h with h
  injection h
theorem OwnR.offM {w : World} {lo hi T o : Nat} {cs : Array Value} {sv v : Value} {zs : List Int} (h : OwnR w lo hi sv zs) (hT : Blk w T cs 32) : OwnR (w.setCell ⟨T, o, none⟩ v) lo hi sv zs := by
  rcases h with h | ⟨g, cap, c2, h1, h2, h3, h4, h5, h6, h7⟩
  · exact .inl h
  · exact .inr ⟨g, cap, c2, h1, h2, h3, h4, h5, h6.apart T o v (fun e => by subst e; exact absurd (h6.differ2 hT) (by decide)), h7⟩
def MaO (m : Nat) (w : World) (v : Value) (z : List Int × List Int) : Prop := ∃ s1 s2, v = .agg #[s1, s2] ∧ (∃ lo hi, m ≤ lo ∧ OwnR w lo hi s1 z.1) ∧ ∃ lo hi, m ≤ lo ∧ OwnR w lo hi s2 z.2
theorem MaO.ma {m : Nat} {w : World} {v : Value} {z : List Int × List Int} (h : MaO m w v z) : MaV w v z := by
  obtain ⟨s1, s2, e, ⟨_, _, _, h1⟩, _, _, _, h2⟩ := h
  exact ⟨s1, s2, e, h1.sl, h2.sl⟩
theorem MaO.by {m : Nat} {w w' : World} {v : Value} {z : List Int × List Int} (hb : Below w.heap.size w w') (h : MaO m w v z) : MaO m w' v z := by
  obtain ⟨s1, s2, e, ⟨_, _, a1, h1⟩, _, _, a2, h2⟩ := h
  exact ⟨s1, s2, e, ⟨_, _, a1, h1.by hb⟩, _, _, a2, h2.by hb⟩
theorem MaO.past {m lo hi : Nat} {w w' : World} {v : Value} {z : List Int × List Int} (hb : Within lo hi w w') (h : MaO m w v z) (hm : hi ≤ m) : MaO m w' v z := by
  obtain ⟨s1, s2, e, ⟨_, _, a1, h1⟩, _, _, a2, h2⟩ := h
  exact ⟨s1, s2, e, ⟨_, _, a1, h1.past hb (.inr (by omega))⟩, _, _, a2, h2.past hb (.inr (by omega))⟩
theorem MaO.low {m m' : Nat} {w : World} {v : Value} {z : List Int × List Int} (h : MaO m w v z) (hm : m' ≤ m) : MaO m' w v z := by
  obtain ⟨s1, s2, e, ⟨_, _, a1, h1⟩, _, _, a2, h2⟩ := h
  exact ⟨s1, s2, e, ⟨_, _, by omega, h1⟩, _, _, by omega, h2⟩
theorem MaO.offM {m T o : Nat} {cs : Array Value} {w : World} {v u : Value} {z : List Int × List Int} (h : MaO m w v z) (hT : Blk w T cs 32) : MaO m (w.setCell ⟨T, o, none⟩ u) v z := by
  obtain ⟨s1, s2, e, ⟨_, _, a1, h1⟩, _, _, a2, h2⟩ := h
  exact ⟨s1, s2, e, ⟨_, _, a1, h1.offM hT⟩, _, _, a2, h2.offM hT⟩
/- The draw of a matching for a netlist. -/
theorem OwnR.wideM {w : World} {lo hi lo' hi' : Nat} {v : Value} {zs : List Int} (h : OwnR w lo hi v zs) (h1 : lo' ≤ lo) (h2 : hi ≤ hi') : OwnR w lo' hi' v zs := by
  rcases h with h | ⟨g, cap, cs, e1, e2, e3, e4⟩
  · exact .inl h
  · exact .inr ⟨g, cap, cs, e1, by omega, by omega, e4⟩
set_option maxRecDepth 100000 in
set_option maxHeartbeats 8000000 in
theorem l30DrawMatching_any (W0 : World) (g : Nat) (sv : Value) (n : Nat) (nets : Int) (a1 a2 : Option Addr) (L L2 c1 c2 : Nat) (hn0 : -1000 ≤ nets) (hn1 : nets ≤ 200) (hL : L ≤ 200) (w : World) (hD : Src1 W0 g sv n w) :
    Calls Tryz.prog 28 #[.pointer (some ⟨g, 0, none⟩), .agg #[.int .i64 nets, .slice a1 L c1, .slice a2 L2 c2]] w fun e w' => ∃ v1 v2 z1 z2, e = .returned (.agg #[v1, v2]) ∧ z1.length ≤ 200 ∧ z2.length ≤ 200 ∧ OwnR w' w.heap.size w'.heap.size v1 z1 ∧ OwnR w' w.heap.size w'.heap.size v2 z2 ∧ Src1 W0 g sv n w' ∧ Within g (g + 1) w w' := by
  have HO := Lib.hid (fun m hm w h => l27DrawOrder_any W0 g sv n m hm w h)
  have hgl := hD.lt
  obtain ⟨m, hm⟩ : ∃ m : Nat, m = nets.toNat := ⟨_, rfl⟩
  have hm2 : m ≤ 200 := by omega
  have kB : Blk ((w.alloc (.cells #[.int .i64 nets, .slice a1 L c1, .slice a2 L2 c2] 27)).alloc (.cells #[.slice none 0 0, .slice none 0 0] 32)) w.heap.size #[.int .i64 nets, .slice a1 L c1, .slice a2 L2 c2] 27 := (Blk.new _ rfl).past _
  have kR : Blk ((w.alloc (.cells #[.int .i64 nets, .slice a1 L c1, .slice a2 L2 c2] 27)).alloc (.cells #[.slice none 0 0, .slice none 0 0] 32)) (w.heap.size + 1) #[.slice none 0 0, .slice none 0 0] 32 := Blk.new _ (by simp)
  have hW0 : Within g (g + 1) w ((w.alloc (.cells #[.int .i64 nets, .slice a1 L c1, .slice a2 L2 c2] 27)).alloc (.cells #[.slice none 0 0, .slice none 0 0] 32)) := ((Within.refl _ _ _).alloc _).alloc _
  have HD0 := Lib.hid ((hD.by ((Below.refl _ _).alloc (Nat.le_refl _) (.cells #[.int .i64 nets, .slice a1 L c1, .slice a2 L2 c2] 27))).by ((Below.refl _ _).alloc (Nat.le_refl _) (.cells #[.slice none 0 0, .slice none 0 0] 32)))
  have hs0 : ((w.alloc (.cells #[.int .i64 nets, .slice a1 L c1, .slice a2 L2 c2] 27)).alloc (.cells #[.slice none 0 0, .slice none 0 0] 32)).heap.size = w.heap.size + 2 := by simp
  have HM := Lib.hid hm
  have hg0 : W0.heap.size ≤ g := hD.1
  clear hD
  go_enter Tryz.func28, Tryz.ntmps28
  go_upto_region 1 with fail
  generalize (w.alloc (.cells #[.int .i64 nets, .slice a1 L c1, .slice a2 L2 c2] 27)).alloc (.cells #[.slice none 0 0, .slice none 0 0] 32) = wA at *
  have hsA : w.heap.size + 2 ≤ wA.heap.size := by omega
  clear hs0 hm
  have hS : (fun w' : World => Blk w' w.heap.size #[.int .i64 nets, .slice a1 L c1, .slice a2 L2 c2] 27) { wA with drawn := wA.drawn + 1 } := kB.drew
  refine wp_region_any (by kernel_rfl) (wpAny_of_E (S := fun w' : World => Blk w' w.heap.size #[.int .i64 nets, .slice a1 L c1, .slice a2 L2 c2] 27) (l := 11) _ _ _ _ ?_)
  change wpAnyE _ _ _ _ _ _ _ _ _ wA.drew
  refine wpAnyE_takeL (i := 0) (v := ?_) rfl (by kernel_rfl) (fun _ _ _ h => h) (Or.inl ⟨by rfl, ?_⟩) hS ?_
  rotate_left
  · intro w hSw; (try dsimp only at hSw); have hc0 := hSw.cell 0; have hc1 := hSw.cell 1; have hl := hSw.lt; clear hSw; go_simp; (try with_reducible rfl)
  try simp only [Act.put, List.setIfInBounds_toArray, List.set_cons_zero, List.set_cons_succ]
  refine wpAnyE_takeL (i := 1) (v := ?_) rfl (by kernel_rfl) (fun _ _ _ h => h) (Or.inl ⟨by rfl, ?_⟩) hS ?_
  rotate_left
  · intro w hSw; (try dsimp only at hSw); have hc0 := hSw.cell 0; have hc1 := hSw.cell 1; have hl := hSw.lt; clear hSw; go_simp; (try with_reducible rfl)
  try simp only [Act.put, List.setIfInBounds_toArray, List.set_cons_zero, List.set_cons_succ]
  refine wpAnyE_takeL (i := 2) (v := ?_) rfl (by kernel_rfl) (fun _ _ _ h => h) (Or.inl ⟨by rfl, ?_⟩) hS ?_
  rotate_left
  · intro w hSw; (try dsimp only at hSw); have hc0 := hSw.cell 0; have hc1 := hSw.cell 1; have hl := hSw.lt; clear hSw; go_simp; (try with_reducible rfl)
  try simp only [Act.put, List.setIfInBounds_toArray, List.set_cons_zero, List.set_cons_succ]
  refine wpAnyE_takeL (i := 3) (v := .int .i64 (m : Int)) rfl (by kernel_rfl) (fun _ _ _ h => h) (Or.inl ⟨by rfl, ?_⟩) hS ?_
  · intro w hSw
    have hm := HM.out
    have hmm : (m : Int) = max 0 nets := by omega
    go_simp
    split <;> omega
  try simp only [Act.put, List.setIfInBounds_toArray, List.set_cons_zero, List.set_cons_succ]
  refine wpAnyE_takeL (i := 5) (v := ?_) rfl (by kernel_rfl) (fun _ _ _ h => h) (Or.inl ⟨by rfl, ?_⟩) hS ?_
  rotate_left
  · intro w hSw; (try dsimp only at hSw); have hc0 := hSw.cell 0; have hc1 := hSw.cell 1; have hl := hSw.lt; clear hSw; go_simp; (try with_reducible rfl)
  try simp only [Act.put, List.setIfInBounds_toArray, List.set_cons_zero, List.set_cons_succ]
  refine wpAnyE_takeL (i := 6) (v := ?_) rfl (by kernel_rfl) (fun _ _ _ h => h) (Or.inl ⟨by rfl, ?_⟩) hS ?_
  rotate_left
  · intro w hSw; (try dsimp only at hSw); have hc0 := hSw.cell 0; have hc1 := hSw.cell 1; have hl := hSw.lt; clear hSw; go_simp; (try with_reducible rfl)
  try simp only [Act.put, List.setIfInBounds_toArray, List.set_cons_zero, List.set_cons_succ]
  refine wpAnyE_takeL (i := 7) (v := ?_) rfl (by kernel_rfl) (fun _ _ _ h => h) (Or.inl ⟨by rfl, ?_⟩) hS ?_
  rotate_left
  · intro w hSw; (try dsimp only at hSw); have hc0 := hSw.cell 0; have hc1 := hSw.cell 1; have hl := hSw.lt; clear hSw; go_simp; (try with_reducible rfl)
  try simp only [Act.put, List.setIfInBounds_toArray, List.set_cons_zero, List.set_cons_succ]
  refine wpAnyE_takeL (i := 8) (v := ?_) rfl (by kernel_rfl) (fun _ _ _ h => h) (Or.inl ⟨by rfl, ?_⟩) hS ?_
  rotate_left
  · intro w hSw; (try dsimp only at hSw); have hc0 := hSw.cell 0; have hc1 := hSw.cell 1; have hl := hSw.lt; clear hSw; go_simp; (try with_reducible rfl)
  try simp only [Act.put, List.setIfInBounds_toArray, List.set_cons_zero, List.set_cons_succ]
  refine wpAnyE_oneL (k := 4) (by kernel_rfl) rfl (fun K hK => ?_)
  go_simp
  go_at_call 58
  refine (HO.out m hm2 _ (HD0.out.by (below_of_drewN wA 1))).mono ?_
  rintro e w1 ⟨v1, z1, rfl, hl1, hB1, hD1, hW1⟩
  obtain ⟨b1, d1, rfl⟩ := hB1.sized
  have kB1 : Blk w1 w.heap.size _ 27 := hW1.blk kB.drew (by omega)
  have kR1 : Blk w1 (w.heap.size + 1) _ 32 := hW1.blk kR.drew (by omega)
  have HB1 := Lib.hid (show BldI w1 wA.heap.size w1.heap.size _ _ from hB1)
  have HD1 := Lib.hid hD1
  have HW1 := Lib.hid ((hW0.drewN 1).on hW1)
  have HL1 := Lib.hid hl1
  have hs1 : wA.heap.size ≤ w1.heap.size := hW1.size
  clear hB1 hD1 hl1 hW1 kB kR HD0 hW0
  refine hK.out _ _ (fun _ => kB1) ?_
  try simp only [Act.put, List.setIfInBounds_toArray, List.set_cons_zero, List.set_cons_succ]
  refine wpAnyE_oneL (k := 9) (by kernel_rfl) rfl (fun K hK => ?_)
  go_simp
  go_at_call 58
  refine (HO.out L hL _ HD1.out).mono ?_
  rintro e w2 ⟨v2, z2, rfl, hl2, hB2, hD2, hW2⟩
  obtain ⟨b2, d2, rfl⟩ := hB2.sized
  have kB2 : Blk w2 w.heap.size _ 27 := hW2.blk kB1 (by omega)
  have kR2 : Blk w2 (w.heap.size + 1) _ 32 := hW2.blk kR1 (by omega)
  have HO1 := Lib.hid (HB1.out.past hW2 (.inl (by omega))).own
  have HO2 := Lib.hid hB2.own
  have HD2 := Lib.hid hD2
  have HW2 := Lib.hid (HW1.out.on hW2)
  have HL2 := Lib.hid hl2
  have hs2 := hW2.size
  clear hB2 hD2 hl2 hW2 kB1 kR1 HB1 HD1 HW1 hS
  refine hK.out _ _ (fun _ => kB2) ?_
  try simp only [Act.put, List.setIfInBounds_toArray, List.set_cons_zero, List.set_cons_succ]
  refine wpAnyE_oneL (k := 10) (by kernel_rfl) rfl (fun K hK => ?_)
  go_simp
  refine hK.out _ _ (fun _ => kB2) ?_
  try simp only [Act.put, List.setIfInBounds_toArray, List.set_cons_zero, List.set_cons_succ]
  have qR := kR2.cell
  have fR := kR2.free
  have lR := kR2.lt
  refine wpAnyE_oneL (k := 11) (by kernel_rfl) rfl (fun K hK => ?_)
  go_simp
  refine hK.out _ _ (fun h => absurd rfl h) ?_
  refine wpAnyE_done (by kernel_rfl) ?_ _
  go_wp2
  have hfin : ∀ (y0 y1 : Value), ((w2.setCell ⟨w.heap.size + 1, 0, none⟩ y0).setCell ⟨w.heap.size + 1, 1, none⟩ y1).heap.size = w2.heap.size := fun _ _ => by simp
  refine bodyPost_ret (v := .agg #[.slice b1 z1.length d1, .slice b2 z2.length d2]) (by simp [results, Tryz.results28, go_sem, *]) rfl ⟨_, _, z1, z2, rfl, by have := HL1.out; omega, by have := HL2.out; omega, ?_, ?_, ?_, ?_⟩
  · exact OwnR.wideM ((HO1.out.offM kR2).offM (kR2.set _ _)) (by omega) (by rw [hfin]; omega)
  · exact OwnR.wideM ((HO2.out.offM kR2).offM (kR2.set _ _)) (by omega) (by rw [hfin]; omega)
  · exact (HD2.out.apart (by omega) (by omega)).apart (by omega) (by omega)
  · exact (HW2.out.new _ _ _ (by omega)).new _ _ _ (by omega)
def BldD (w : World) (lo hi : Nat) (v : Value) (ds : List Dv) : Prop := hi ≤ w.heap.size ∧ ∃ (pvs : List Value) (f : Nat → Nat), w.ownsRow lo 54 4 v ds.length (dcells ds pvs) ∧ pvs.length = ds.length ∧ (∀ g, v.ownBlock = some g → lo ≤ g ∧ g < hi) ∧
  (∀ i x pv, ds[i]? = some x → pvs[i]? = some pv → BldI w (f i) (f i + 1) pv x.pins ∧ (lo ≤ f i ∧ f i < hi) ∧ v.ownBlock ≠ some (f i)) ∧ (∀ i j, i < ds.length → j < ds.length → i ≠ j → f i ≠ f j)
section
variable {w w' : World} {lo hi : Nat} {v : Value} {ds : List Dv}
theorem BldD.nil (w : World) (lo : Nat) : BldD w lo w.heap.size (.slice none 0 0) [] :=
  ⟨Nat.le_refl _, [], fun _ => 0, World.ownsRow_nil w lo _ 4, rfl, (by intro g h; cases h), (by intro i x pv h; simp at h), (by intro i j h; simp at h)⟩
theorem BldD.by (hb : Below w.heap.size w w') (h : BldD w lo hi v ds) : BldD w' lo hi v ds := by
  obtain ⟨hs, pvs, f, h1, h2, h3, h4, h5⟩ := h
  refine ⟨Nat.le_trans hs hb.size, pvs, f, row_same h1 (fun g hg => hb.block g (by have := h3 g hg; omega)), h2, h3, fun i x pv hx hp => ?_, h5⟩
  obtain ⟨a, b, c⟩ := h4 i x pv hx hp
  exact ⟨BldI.by hb a, b, c⟩
theorem BldD.past {lo' hi' : Nat} (hb : Within lo' hi' w w') (h : BldD w lo hi v ds) (hd : hi' ≤ lo ∨ hi ≤ lo') : BldD w' lo hi v ds := by
  obtain ⟨hs, pvs, f, h1, h2, h3, h4, h5⟩ := h
  refine ⟨Nat.le_trans hs hb.size, pvs, f, row_same h1 (fun g hg => hb.block g (by have := h3 g hg; omega) (by have := h3 g hg; omega)), h2, h3, fun i x pv hx hp => ?_, h5⟩
  obtain ⟨a, b, c⟩ := h4 i x pv hx hp
  exact ⟨BldI.past hb a (by omega), b, c⟩
theorem BldD.sized (h : BldD w lo hi v ds) : ∃ a c, v = .slice a ds.length c := by
  obtain ⟨_, pvs, f, ⟨_, h1⟩, _⟩ := h
  rcases h1 with ⟨h1, h2⟩ | ⟨g, cap, cur, e1, _⟩
  · exact ⟨none, 0, by rw [h1, h2]⟩
  · exact ⟨_, _, e1⟩
theorem BldD.own (h : BldD w lo hi v ds) : OwnDs w lo hi v ds := by
  obtain ⟨hs, pvs, f, ⟨hlen, h1⟩, h2, h3, h4, h5⟩ := h
  rcases h1 with ⟨h1, hn⟩ | ⟨g, cap, cur, e1, e2, e3, e4, e5, e6, e7⟩
  · exact .inl ⟨_, _, h1, List.eq_nil_of_length_eq_zero hn⟩
  · have hcur : ∀ (j : Nat) u, (dcells ds pvs)[j]? = some u → cur[j]? = some u := by
      intro j u hu
      rw [← e7] at hu
      have hj : j < ds.length * 4 := by
        have := (List.getElem?_eq_some_iff.1 hu).1
        rw [List.length_take] at this; omega
      rw [List.getElem?_take_of_lt hj] at hu
      simpa using hu
    refine .inr ⟨g, cap, cur, f, e1, h3 g (by rw [e1]; rfl), e4, e5, e3, fun i x hx => ?_, h5⟩
    have hi : i < ds.length := (List.getElem?_eq_some_iff.1 hx).1
    obtain ⟨pv, hp⟩ : ∃ pv, pvs[i]? = some pv := ⟨pvs[i]'(by omega), List.getElem?_eq_getElem (by omega)⟩
    obtain ⟨a, b, c⟩ := h4 i x pv hx hp
    obtain ⟨q0, q1, q2, q3⟩ := dcells_get ds pvs i x pv hx hp
    refine ⟨⟨pv, ⟨hcur _ _ q0, hcur _ _ q1, hcur _ _ q2, hcur _ _ q3⟩, a.own⟩, b.1, b.2, fun e => c (by rw [e1, e]; rfl)⟩
end
theorem step_pushD {ops : Array Oper} {o : Oper} {a : Act} {w : World} {K : Act → World → Prop} {Q : Exit → Act → World → Prop} {E : Prop} (hgd : o.guard = none) (s x : Operand)
    (ho : o.op = .call { callee := .builtin .append, args := #[s, x], argTypes := #[24, 24] })
    (lo hi : Nat) (v : Value) (ds : List Dv) (hs : a.eval s = v) (hB : BldD w lo hi v ds) (nb : Nat) (d : Dv) (pv : Value) (fb : Nat) (hx : a.eval x = .slice (some ⟨nb, 0, none⟩) 1 1)
    (hnb : Blk w nb #[.int .i64 d.kind, pv, .int .i64 d.wd, .int .i64 d.len] 54) (hpv : BldI w fb (fb + 1) pv d.pins) (hlo : lo ≤ hi) (hhi : hi ≤ fb) (hfb : fb < w.heap.size) (hn : ds.length ≤ 1000)
    (hK : ∀ a' c' w', BldD w' lo w'.heap.size (.slice a' (ds.length + 1) c') (ds ++ [d]) → Within lo hi w w' → K (a.put o.dst (.slice a' (ds.length + 1) c')) w') :
    if Region.wanted o (yielded ops a.tmps) = true then Oper.wp Tryz.prog o a w K Q else E := by
  obtain ⟨i0, hi0, hz0, hz1, hz2⟩ := info_parts infoDev
  obtain ⟨hsz, pvs, f, h1, h2, h3, h4, h5⟩ := hB
  have hone : pv.oneCell' = true := by
    obtain ⟨_, _, rfl⟩ := hpv.sized
    rfl
  refine step_append_lies w hgd s x 24 ho lo 54 i0 _ 4 48 Tryz.underlying24 hi0 hz0 hz1 hz2 rfl (by decide) v ds.length _ hs h1 ⟨nb, 0, none⟩ 1 1 [.int .i64 d.kind, pv, .int .i64 d.wd, .int .i64 d.len] hx rfl (World.news_of_block (cs := #[.int .i64 d.kind, pv, .int .i64 d.wd, .int .i64 d.len]) hnb) ?_ (by decide) (by unfold maxLen; omega) (by omega) (by omega) w.heap.size rfl ?_
  · intro u hu
    simp at hu
    rcases hu with rfl | rfl | rfl | rfl
    · rfl
    · exact hone
    · rfl
    · rfl
  · intro g cap w' hrow hgrow hg hgl
    have hW : Within lo hi w w' := grown_within hgrow h3
    refine hK (some ⟨g, 0, none⟩) cap w' ⟨Nat.le_refl _, pvs ++ [pv], fun i => if i = ds.length then fb else f i, ?_, by simp [h2], ?_, ?_, ?_⟩ hW
    · rw [List.length_append, List.length_singleton, dcells_push ds pvs d pv h2]; exact hrow
    · intro g' hg'
      have : g = g' := by injection hg'
      subst this
      rcases hg with h | h
      · have := h3 g h; omega
      · omega
    · intro i y pv' hy hp'
      by_cases hi' : i < ds.length
      · rw [List.getElem?_append_left hi'] at hy
        rw [List.getElem?_append_left (by omega)] at hp'
        obtain ⟨a1, b1, c1⟩ := h4 i y pv' hy hp'
        simp only [if_neg (show i ≠ ds.length by omega)]
        have hsep : ∀ g0, v.ownBlock = some g0 → g0 ≠ f i := fun g0 e1 e2 => c1 (by rw [e1, e2])
        refine ⟨?_, by have := hgrow.size; omega, ?_⟩
        · cases hv : v.ownBlock with
          | none => exact BldI.by ⟨hgrow.os, hgrow.tape, hgrow.output, hgrow.size, fun k hk => hgrow.block k hk (by rw [hv]; simp)⟩ a1
          | some g0 => exact BldI.past (grown_within (lo := g0) (hi := g0 + 1) hgrow (fun g1 e => by rw [hv] at e; cases e; omega)) a1 (by have := hsep g0 hv; omega)
        · intro e
          have : g = f i := by injection e
          rcases hg with h | h
          · exact hsep g h this
          · omega
      · have hil : i < (ds ++ [d]).length := (List.getElem?_eq_some_iff.1 hy).1
        simp at hil
        obtain rfl : i = ds.length := by omega
        rw [List.getElem?_append_right (Nat.le_refl _)] at hy
        rw [List.getElem?_append_right (by omega)] at hp'
        simp [h2] at hy hp'
        subst hy hp'
        simp only [if_true]
        refine ⟨BldI.past hW hpv (by omega), by have := hgrow.size; omega, ?_⟩
        intro e
        have : g = fb := by injection e
        rcases hg with h | h
        · have := h3 g h; omega
        · omega
    · intro i j hi' hj' hij
      simp at hi' hj'
      by_cases e1 : i = ds.length
      · subst e1
        obtain ⟨y, hy⟩ : ∃ y, ds[j]? = some y := ⟨ds[j]'(by omega), List.getElem?_eq_getElem (by omega)⟩
        obtain ⟨p, hp⟩ : ∃ p, pvs[j]? = some p := ⟨pvs[j]'(by omega), List.getElem?_eq_getElem (by omega)⟩
        have := (h4 j y p hy hp).2.1
        simp only [if_true, if_neg (show j ≠ ds.length by omega)]
        omega
      · by_cases e2 : j = ds.length
        · subst e2
          obtain ⟨y, hy⟩ : ∃ y, ds[i]? = some y := ⟨ds[i]'(by omega), List.getElem?_eq_getElem (by omega)⟩
          obtain ⟨p, hp⟩ : ∃ p, pvs[i]? = some p := ⟨pvs[i]'(by omega), List.getElem?_eq_getElem (by omega)⟩
          have := (h4 i y p hy hp).2.1
          simp only [if_true, if_neg e1]
          omega
        · simp only [if_neg e1, if_neg e2]
          exact h5 i j (by omega) (by omega) hij
theorem list_pushD {ops : Array Oper} {rest : List Oper} {o : Oper} {a : Act} {w : World} {Q : Exit → Act → World → Prop} (hgd : o.guard = none) (s x : Operand)
    (ho : o.op = .call { callee := .builtin .append, args := #[s, x], argTypes := #[24, 24] })
    (lo hi : Nat) (v : Value) (ds : List Dv) (hs : a.eval s = v) (hB : BldD w lo hi v ds) (nb : Nat) (d : Dv) (pv : Value) (fb : Nat) (hx : a.eval x = .slice (some ⟨nb, 0, none⟩) 1 1)
    (hnb : Blk w nb #[.int .i64 d.kind, pv, .int .i64 d.wd, .int .i64 d.len] 54) (hpv : BldI w fb (fb + 1) pv d.pins) (hlo : lo ≤ hi) (hhi : hi ≤ fb) (hfb : fb < w.heap.size) (hn : ds.length ≤ 1000)
    (hK : ∀ a' c' w', BldD w' lo w'.heap.size (.slice a' (ds.length + 1) c') (ds ++ [d]) → Within lo hi w w' → wpList Tryz.prog ops Q rest (a.put o.dst (.slice a' (ds.length + 1) c')) w') : wpList Tryz.prog ops Q (o :: rest) a w :=
  wpList_plain hgd fun K hk => by
    have h := step_pushD (ops := ops) (K := K) (Q := Q) (E := False) hgd s x ho lo hi v ds hs hB nb d pv fb hx hnb hpv hlo hhi hfb hn (fun a' c' w' h1 h2 => hk _ _ (hK a' c' w' h1 h2))
    rwa [if_pos (by simp [Region.wanted, hgd])] at h
/- l27Own with pins that may grow afterwards. -/
section
variable {w : World} {sv : Value} {zs : List Int}
theorem clone_runB (h : IntSl w sv zs) (hne : zs ≠ []) (hn : zs.length ≤ 1048576) (b : Nat) (ty : TypeId) :
    ∃ v w', (Builtin.append_ #[30, 30] ty #[.slice (some ⟨b, 0, none⟩) 0 0, sv]).run Tryz.prog w = .ok v w' ∧ BldI w' w.heap.size (w.heap.size + 1) v zs ∧ w'.heap.size = w.heap.size + 1 ∧ Below w.heap.size w w' := by
  obtain ⟨i0, hi, hz0, hz1, hz2⟩ := info_parts infoI
  have hS := src_ints h
  have hl : 0 < zs.length := List.length_pos_iff.2 hne
  have hr := run_append_grow_src (P := Tryz.prog) w 30 30 ty 2 i0 _ Tryz.underlying30 hi hz0 (some ⟨b, 0, none⟩) 0 0 [] (by rw [hz1]; exact run_firstCells_some w.drew 1 0 _ 0 0 [] rfl (by simp)) sv zs.length (zs.map (Value.int .i64)) (by rw [hz1]; exact hS) (by omega) (by omega)
    (by rw [hz2]; simp only [Builtin.nextslicecap, Nat.mul_zero, Nat.zero_add]; rw [if_pos (by omega)]; omega)
  have hcap := grownCap_ge w (0 + zs.length) 0 2
  have hmx := grownCap_le_maxLen w (0 + zs.length) 0 2 (by unfold maxLen; omega)
  refine ⟨_, _, hr, ⟨by simp, ⟨by simp [icells], .inr ⟨w.heap.size, grownCap w (0 + zs.length) 0 2, _, by rw [Nat.zero_add], Nat.le_refl _, Blk.new _ rfl, by omega, hmx, ?_, ?_⟩⟩, ?_⟩, by simp, ((Below.refl _ _).drew).alloc (Nat.le_refl _) _⟩
  · rw [Nat.zero_add] at hcap
    simp [Builtin.zeroCells, Value.cells]
    omega
  · rw [Array.toList_append, Nat.mul_one, List.take_append_of_le_length (by simp), List.take_of_length_le (by simp)]
    simp [icells]
  · intro g hg
    have : w.heap.size = g := by injection hg
    omega
end
theorem step_cloneB {ops : Array Oper} {o : Oper} {a : Act} {w : World} {K : Act → World → Prop} {Q : Exit → Act → World → Prop} {E : Prop} (hgd : o.guard = none) (s x : Operand)
    (ho : o.op = .call { callee := .builtin .append, args := #[s, x], argTypes := #[30, 30] })
    (b : Nat) (hs : a.eval s = .slice (some ⟨b, 0, none⟩) 0 0) (sv : Value) (zs : List Int) (hx : a.eval x = sv) (h : IntSl w sv zs) (hne : zs ≠ []) (hn : zs.length ≤ 1048576)
    (hK : ∀ v w' g, BldI w' g (g + 1) v zs → w.heap.size ≤ g → Below w.heap.size w w' → K (a.put o.dst v) w') :
    if Region.wanted o (yielded ops a.tmps) = true then Oper.wp Tryz.prog o a w K Q else E := by
  have hw : Region.wanted o (yielded ops a.tmps) = true := by simp [Region.wanted, hgd]
  rw [if_pos hw]
  obtain ⟨v, w', hr, h2, h4, h3⟩ := clone_runB h hne hn b o.type
  unfold Oper.wp execOp
  simp only [ho, resolve, invoke, builtin, Sem.run_bind, Sem.run_pure, Result.andThen_ok, List.map_toArray, List.map_cons, List.map_nil, hs, hx, hr]
  exact hK v w' _ h2 (Nat.le_refl _) h3
set_option maxRecDepth 100000 in
set_option maxHeartbeats 1000000 in
theorem own_bld (kind wd len : Int) (sv : Value) (zs : List Int) (w : World) (h : IntSl w sv zs) (hne : zs ≠ []) (hn : zs.length ≤ 1048576) :
    Calls Tryz.prog 82 #[.agg #[.int .i64 kind, sv, .int .i64 wd, .int .i64 len]] w fun e w' => ∃ v g, e = .returned (.agg #[.int .i64 kind, v, .int .i64 wd, .int .i64 len]) ∧ BldI w' g (g + 1) v zs ∧ w.heap.size ≤ g ∧ Below w.heap.size w w' := by
  obtain ⟨a, c, rfl⟩ := h.len
  have HNE := Lib.hid hne
  clear hne
  go_enter Tryz.func82, Tryz.ntmps82
  go_wp2_with fail
  go_region_held_law ((fun w' => (Blk w' (w.heap.size) #[.int .i64 kind, .slice a zs.length c, .int .i64 wd, .int .i64 len] 54 ∧ ∀ o, w'.cell? ⟨w.heap.size, o, none⟩ = (#[.int .i64 kind, .slice a zs.length c, .int .i64 wd, .int .i64 len] : Array Value)[o]?) ∧ Below w.heap.size w w')) (((try (obtain ⟨⟨hS0, _⟩, hSB⟩ := hHeld)); refine ⟨Blk.both ?_, ?_⟩ <;> first | ((repeat (first | (with_reducible assumption) | (with_reducible refine Blk.drewN ?_ _) | (with_reducible refine Blk.drew ?_) | ((with_reducible refine Blk.new _ ?_); focus (first | omega | (simp; done) | (simp; omega))) | (with_reducible refine Blk.past ?_ _) | ((with_reducible refine Blk.apart ?_ _ _ _ ?_); rotate_left; focus (first | omega | (simp; done) | (simp; omega))) | (with_reducible refine Blk.by (by assumption) ?_))); done) | ((repeat (first | (with_reducible exact Below.refl _ _) | (with_reducible refine below_drewN ?_ _) | (with_reducible refine Below.drew ?_) | (with_reducible refine below_al ?_ _) | (with_reducible refine below_on (by assumption) ?_) | ((with_reducible refine Below.setCell ?_ ?_ _); rotate_left; focus (first | omega | (simp; done) | (simp; omega))) | (with_reducible assumption))); done)))
    ((refine step_cloneB (by rfl) _ _ (by rfl) _ (by rfl) _ zs (by rfl) (h.by blwT) HNE.out hn ?_; intro v w3 g hO hg3 hb3; (try simp at hg3); have HO := Lib.hid hO; obtain ⟨a1, c1, rfl⟩ := hO.sized; clear hO; have k2 : Blk w3 (w.heap.size + 1) #[.int .i64 0, .slice none 0 0, .int .i64 0, .int .i64 0] 54 := blkT; have c2 := k2.cell; have f2 := k2.free; have l2 := k2.lt))
  go_wp2
  refine bodyPost_ret (v := .agg #[.int .i64 kind, .slice a1 zs.length c1, .int .i64 wd, .int .i64 len]) (by simp [results, Tryz.results82, go_sem, *]) rfl ⟨_, g, rfl, ?_, by omega, blwT⟩
  repeat (first | (with_reducible exact HO.out) | (with_reducible refine BldI.past (Within.off _) ?_ (.inl (by omega))))
/- A slice of devices that grows; the pins lie elsewhere. -/
def BldR (w : World) (lo hi : Nat) (v : Value) (ds : List Dv) (pvs : List Value) : Prop := hi ≤ w.heap.size ∧ w.ownsRow lo 54 4 v ds.length (dcells ds pvs) ∧ pvs.length = ds.length ∧ (∀ g, v.ownBlock = some g → lo ≤ g ∧ g < hi)
section
variable {w w' : World} {lo hi : Nat} {v : Value} {ds : List Dv} {pvs : List Value}
theorem BldR.nil (w : World) (lo : Nat) : BldR w lo w.heap.size (.slice none 0 0) [] [] :=
  ⟨Nat.le_refl _, World.ownsRow_nil w lo _ 4, rfl, (by intro g h; cases h)⟩
theorem BldR.by (hb : Below w.heap.size w w') (h : BldR w lo hi v ds pvs) : BldR w' lo hi v ds pvs := by
  obtain ⟨hs, h1, h2, h3⟩ := h
  exact ⟨Nat.le_trans hs hb.size, row_same h1 (fun g hg => hb.block g (by have := h3 g hg; omega)), h2, h3⟩
theorem BldR.past {lo' hi' : Nat} (hb : Within lo' hi' w w') (h : BldR w lo hi v ds pvs) (hd : hi' ≤ lo ∨ hi ≤ lo') : BldR w' lo hi v ds pvs := by
  obtain ⟨hs, h1, h2, h3⟩ := h
  exact ⟨Nat.le_trans hs hb.size, row_same h1 (fun g hg => hb.block g (by have := h3 g hg; omega) (by have := h3 g hg; omega)), h2, h3⟩
theorem BldR.sized (h : BldR w lo hi v ds pvs) : ∃ a c, v = .slice a ds.length c := by
  obtain ⟨_, ⟨_, h1⟩, _⟩ := h
  rcases h1 with ⟨h1, h2⟩ | ⟨g, cap, cur, e1, _⟩
  · exact ⟨none, 0, by rw [h1, h2]⟩
  · exact ⟨_, _, e1⟩
theorem BldR.ownX {lo' hi' P : Nat} {f : Nat → Nat} (h : BldR w lo hi v ds pvs) (hlo : lo' ≤ lo) (hhi : hi ≤ hi') (hP : P < lo ∨ hi ≤ P)
    (hf : ∀ (i : Nat) (x : Dv) (pv : Value), ds[i]? = some x → pvs[i]? = some pv → OwnR w (f i) (f i + 1) pv x.pins ∧ lo' ≤ f i ∧ f i < lo ∧ f i ≠ P)
    (hi : ∀ i j, i < ds.length → j < ds.length → i ≠ j → f i ≠ f j) : OwnDsX w lo' hi' P v ds := by
  obtain ⟨hs, ⟨hlen, h1⟩, h2, h3⟩ := h
  rcases h1 with ⟨h1, hn⟩ | ⟨g, cap, cur, e1, e2, e3, e4, e5, e6, e7⟩
  · exact .inl ⟨_, _, h1, List.eq_nil_of_length_eq_zero hn⟩
  · have hcur : ∀ (j : Nat) u, (dcells ds pvs)[j]? = some u → cur[j]? = some u := by
      intro j u hu
      rw [← e7] at hu
      have hj : j < ds.length * 4 := by
        have := (List.getElem?_eq_some_iff.1 hu).1
        rw [List.length_take] at this; omega
      rw [List.getElem?_take_of_lt hj] at hu
      simpa using hu
    have hg := h3 g (by rw [e1]; rfl)
    refine .inr ⟨g, cap, cur, f, e1, by omega, e4, e5, e3, fun i x hx => ?_, hi⟩
    have hil : i < ds.length := (List.getElem?_eq_some_iff.1 hx).1
    obtain ⟨pv, hp⟩ : ∃ pv, pvs[i]? = some pv := ⟨pvs[i]'(by omega), List.getElem?_eq_getElem (by omega)⟩
    obtain ⟨a, b, c, d⟩ := hf i x pv hx hp
    obtain ⟨q0, q1, q2, q3⟩ := dcells_get ds pvs i x pv hx hp
    exact ⟨⟨pv, ⟨hcur _ _ q0, hcur _ _ q1, hcur _ _ q2, hcur _ _ q3⟩, a⟩, b, by omega, by omega, d⟩
end
theorem step_pushRB {ops : Array Oper} {o : Oper} {a : Act} {w : World} {K : Act → World → Prop} {Q : Exit → Act → World → Prop} {E : Prop} (hgd : o.guard = none) (s x : Operand)
    (ho : o.op = .call { callee := .builtin .append, args := #[s, x], argTypes := #[24, 24] })
    (lo hi : Nat) (v : Value) (ds : List Dv) (pvs : List Value) (hs : a.eval s = v) (hB : BldR w lo hi v ds pvs) (nb : Nat) (d : Dv) (pv : Value) (hx : a.eval x = .slice (some ⟨nb, 0, none⟩) 1 1)
    (hnb : Blk w nb #[.int .i64 d.kind, pv, .int .i64 d.wd, .int .i64 d.len] 54) (hone : pv.oneCell' = true) (hlo : lo ≤ hi) (hn : ds.length ≤ 1000)
    (hK : ∀ a' c' w', BldR w' lo w'.heap.size (.slice a' (ds.length + 1) c') (ds ++ [d]) (pvs ++ [pv]) → Within lo hi w w' → K (a.put o.dst (.slice a' (ds.length + 1) c')) w') :
    if Region.wanted o (yielded ops a.tmps) = true then Oper.wp Tryz.prog o a w K Q else E := by
  obtain ⟨i0, hi0, hz0, hz1, hz2⟩ := info_parts infoDev
  obtain ⟨hsz, h1, h2, h3⟩ := hB
  refine step_append_lies w hgd s x 24 ho lo 54 i0 _ 4 48 Tryz.underlying24 hi0 hz0 hz1 hz2 rfl (by decide) v ds.length _ hs h1 ⟨nb, 0, none⟩ 1 1 [.int .i64 d.kind, pv, .int .i64 d.wd, .int .i64 d.len] hx rfl (World.news_of_block (cs := #[.int .i64 d.kind, pv, .int .i64 d.wd, .int .i64 d.len]) hnb) ?_ (by decide) (by unfold maxLen; omega) (by omega) (by omega) w.heap.size rfl ?_
  · intro u hu
    simp at hu
    rcases hu with rfl | rfl | rfl | rfl
    · rfl
    · exact hone
    · rfl
    · rfl
  · intro g cap w' hrow hgrow hg hgl
    have hW : Within lo hi w w' := grown_within hgrow h3
    refine hK (some ⟨g, 0, none⟩) cap w' ⟨Nat.le_refl _, ?_, by simp [h2], ?_⟩ hW
    · rw [List.length_append, List.length_singleton, dcells_push ds pvs d pv h2]; exact hrow
    · intro g' hg'
      have : g = g' := by injection hg'
      subst this
      rcases hg with h | h
      · have := h3 g h; omega
      · omega
/- A slice of devices that grows in memory of the call's own; the pins of one device lie elsewhere, at a block m below it. -/
def BldM (m : Nat) (av : Prop) (w : World) (lo hi : Nat) (v : Value) (ds : List Dv) : Prop := hi ≤ w.heap.size ∧ ∃ (pvs : List Value) (f : Nat → Nat), w.ownsRow lo 54 4 v ds.length (dcells ds pvs) ∧ pvs.length = ds.length ∧ (∀ g, v.ownBlock = some g → lo ≤ g ∧ g < hi) ∧
  (∀ i x pv, ds[i]? = some x → pvs[i]? = some pv → OwnR w (f i) (f i + 1) pv x.pins ∧ ((f i = m ∧ ¬ av) ∨ (lo ≤ f i ∧ f i < hi)) ∧ v.ownBlock ≠ some (f i)) ∧ (∀ i j, i < ds.length → j < ds.length → i ≠ j → f i ≠ f j)
section
variable {m : Nat} {av : Prop} {w w' : World} {lo hi : Nat} {v : Value} {ds : List Dv}
theorem BldM.nil (m : Nat) (av : Prop) (w : World) (lo : Nat) : BldM m av w lo w.heap.size (.slice none 0 0) [] :=
  ⟨Nat.le_refl _, [], fun _ => 0, World.ownsRow_nil w lo _ 4, rfl, (by intro g h; cases h), (by intro i x pv h; simp at h), (by intro i j h; simp at h)⟩
theorem BldM.sub {av' : Prop} (h : BldM m av w lo hi v ds) (ha : av' → av) : BldM m av' w lo hi v ds := by
  obtain ⟨hs, pvs, f, h1, h2, h3, h4, h5⟩ := h
  refine ⟨hs, pvs, f, h1, h2, h3, fun i x pv hx hp => ?_, h5⟩
  obtain ⟨a, b, c⟩ := h4 i x pv hx hp
  exact ⟨a, b.imp (fun h => ⟨h.1, fun k => h.2 (ha k)⟩) id, c⟩
theorem BldM.by (hb : Below w.heap.size w w') (h : BldM m av w lo hi v ds) : BldM m av w' lo hi v ds := by
  obtain ⟨hs, pvs, f, h1, h2, h3, h4, h5⟩ := h
  refine ⟨Nat.le_trans hs hb.size, pvs, f, row_same h1 (fun g hg => hb.block g (by have := h3 g hg; omega)), h2, h3, fun i x pv hx hp => ?_, h5⟩
  obtain ⟨a, b, c⟩ := h4 i x pv hx hp
  exact ⟨OwnR.by hb a, b, c⟩
theorem BldM.past {lo' hi' : Nat} (hb : Within lo' hi' w w') (h : BldM m av w lo hi v ds) (hd : hi' ≤ lo ∨ hi ≤ lo') (hm : m < lo' ∨ hi' ≤ m) : BldM m av w' lo hi v ds := by
  obtain ⟨hs, pvs, f, h1, h2, h3, h4, h5⟩ := h
  refine ⟨Nat.le_trans hs hb.size, pvs, f, row_same h1 (fun g hg => hb.block g (by have := h3 g hg; omega) (by have := h3 g hg; omega)), h2, h3, fun i x pv hx hp => ?_, h5⟩
  obtain ⟨a, b, c⟩ := h4 i x pv hx hp
  exact ⟨OwnR.past hb a (by omega), b, c⟩
theorem BldM.sized (h : BldM m av w lo hi v ds) : ∃ a c, v = .slice a ds.length c := by
  obtain ⟨_, pvs, f, ⟨_, h1⟩, _⟩ := h
  rcases h1 with ⟨h1, h2⟩ | ⟨g, cap, cur, e1, _⟩
  · exact ⟨none, 0, by rw [h1, h2]⟩
  · exact ⟨_, _, e1⟩
theorem BldM.ownX {lo0 P : Nat} (h : BldM m av w lo hi v ds) (h0 : lo0 ≤ m) (hm : m < lo) (hm' : m < hi) (hP : P < lo) (hP' : P ≠ m) : OwnDsX w lo0 hi P v ds := by
  obtain ⟨hs, pvs, f, ⟨hlen, h1⟩, h2, h3, h4, h5⟩ := h
  rcases h1 with ⟨h1, hn⟩ | ⟨g, cap, cur, e1, e2, e3, e4, e5, e6, e7⟩
  · exact .inl ⟨_, _, h1, List.eq_nil_of_length_eq_zero hn⟩
  · have hcur : ∀ (j : Nat) u, (dcells ds pvs)[j]? = some u → cur[j]? = some u := by
      intro j u hu
      rw [← e7] at hu
      have hj : j < ds.length * 4 := by
        have := (List.getElem?_eq_some_iff.1 hu).1
        rw [List.length_take] at this; omega
      rw [List.getElem?_take_of_lt hj] at hu
      simpa using hu
    have hg := h3 g (by rw [e1]; rfl)
    refine .inr ⟨g, cap, cur, f, e1, ⟨by omega, by omega⟩, e4, e5, e3, fun i x hx => ?_, h5⟩
    have hi : i < ds.length := (List.getElem?_eq_some_iff.1 hx).1
    obtain ⟨pv, hp⟩ : ∃ pv, pvs[i]? = some pv := ⟨pvs[i]'(by omega), List.getElem?_eq_getElem (by omega)⟩
    obtain ⟨a, b, c⟩ := h4 i x pv hx hp
    obtain ⟨q0, q1, q2, q3⟩ := dcells_get ds pvs i x pv hx hp
    have hne : f i ≠ g := fun e => c (by rw [e1, e]; rfl)
    exact ⟨⟨pv, ⟨hcur _ _ q0, hcur _ _ q1, hcur _ _ q2, hcur _ _ q3⟩, a⟩, by omega, by omega, hne, by omega⟩
end
theorem Within.newerM {a w w' : World} {lo hi lo' hi' : Nat} (h : Within lo hi a w) (h' : Within lo' hi' w w') (hl : a.heap.size ≤ lo') : Within lo hi a w' :=
  ⟨h'.os.trans h.os, h'.tape.trans h.tape, h'.output.trans h.output, Nat.le_trans h.size h'.size, fun k hk hn => (h'.block k (by have := h.size; omega) (by omega)).trans (h.block k hk hn)⟩
theorem Within.ofBelowM {w w' : World} (lo hi : Nat) (h : Below w.heap.size w w') : Within lo hi w w' := ⟨h.os, h.tape, h.output, h.size, fun k hk _ => h.block k hk⟩
theorem BldI.one {w : World} {lo hi : Nat} {v : Value} {zs : List Int} (h : BldI w lo hi v zs) (h0 : 0 < zs.length) : ∃ f, BldI w f (f + 1) v zs ∧ lo ≤ f ∧ f < hi := by
  obtain ⟨hs, ⟨hlen, r⟩, h3⟩ := h
  rcases r with ⟨_, r1⟩ | ⟨g, cap', cur, rfl, e2, e3, e4, e5, e6, e7⟩
  · omega
  · have hg := h3 g rfl
    refine ⟨g, ⟨by omega, ⟨hlen, .inr ⟨g, cap', cur, rfl, Nat.le_refl _, e3, e4, e5, e6, e7⟩⟩, fun g' hg' => ?_⟩, hg.1, hg.2⟩
    have : g = g' := by injection hg'
    omega
theorem Src1.within {W0 w w1 : World} {g n lo hi : Nat} {sv : Value} (hb : Within lo hi w w1) (h : Src1 W0 g sv n w) (hg : g < lo) (hlo : W0.heap.size ≤ lo) : Src1 W0 g sv n w1 := by
  obtain ⟨h1, h2, h3, h4, i, x, h5, h6, h7, h8⟩ := h
  exact ⟨h1, hb.below h2 hlo, h3, h4, i, x, h5, h6, h7, hb.blk h8 (.inl hg)⟩
set_option maxRecDepth 100000 in
set_option maxHeartbeats 8000000 in
theorem l27DrawDevice_any (W0 : World) (g : Nat) (sv : Value) (n : Nat) (m : Int) (hm : m ≤ 256) (w : World) (hD : Src1 W0 g sv n w) :
    Calls Tryz.prog 85 #[.pointer (some ⟨g, 0, none⟩), .int .i64 m] w fun e w' => ∃ (d : Dv) (pv : Value) (f : Nat), e = .returned (.agg #[.int .i64 d.kind, pv, .int .i64 d.wd, .int .i64 d.len]) ∧ (2 ≤ d.pins.length ∧ d.pins.length ≤ 3) ∧ BldI w' f (f + 1) pv d.pins ∧ w.heap.size ≤ f ∧ Src1 W0 g sv n w' ∧ Within g (g + 1) w w' := by
  have HN := Lib.hid (fun q w h hq => l01Next_any W0 g sv n q w h hq)
  have hgl := hD.lt
  have HD := Lib.hid hD
  have HRD := Lib.hid (fun n d w h1 h2 h3 h4 h5 => l26Reduce_any n d w h1 h2 h3 h4 h5)
  obtain ⟨M, hM⟩ : ∃ M, max 1 m = M := ⟨_, rfl⟩
  have hM256 : M ≤ 256 := by omega
  clear hD
  go_enter Tryz.func85, Tryz.ntmps85
  go_wp2_with fail
  refine (HN.out _ _ (HD.out.by blwT) (by omega)).mono ?_
  rintro e w1 ⟨a, rfl, ha0, ha1, hD1, ho1⟩
  have kZ0 : Blk (w.alloc (.cells #[.int .i64 0, .slice none 0 0, .int .i64 0, .int .i64 0] 54)) w.heap.size #[.int .i64 0, .slice none 0 0, .int .i64 0, .int .i64 0] 54 := Blk.new _ rfl
  have kZ := ho1.within.blk kZ0 (by omega)
  clear kZ0
  have hW1 : Within g (g + 1) w w1 := ((Within.refl g (g + 1) w).alloc _).on ho1.within
  go_wp2_with fail
  refine (HN.out _ _ hD1 (by omega)).mono ?_
  rintro e w2 ⟨b, rfl, hb0, hb1, hD2, ho2⟩
  replace kZ := ho2.within.blk kZ (by omega)
  replace hW1 := hW1.on ho2.within
  go_wp2_with fail
  refine (HN.out _ _ hD2 (by omega)).mono ?_
  rintro e w3 ⟨c, rfl, hc0, hc1, hD3, ho3⟩
  replace kZ := ho3.within.blk kZ (by omega)
  replace hW1 := hW1.on ho3.within
  have wb : IntKind.i64.wrap (1 + b) = 1 + b := by simp [IntKind.wrap, IntKind.bits, IntKind.signed]; omega
  have wc : IntKind.i64.wrap (1 + c) = 1 + c := by simp [IntKind.wrap, IntKind.bits, IntKind.signed]; omega
  have lZ := kZ.lt
  have HD3 := Lib.hid hD3
  have HW1 := Lib.hid hW1
  clear hD1 hD2 hD3 hW1 ho1 ho2 ho3
  by_cases hk : a = 2
  · subst hk
    have kZL := (kZ.past (.cells #[.int .i64 2, .slice none 0 0, .int .i64 (1 + b), .int .i64 (1 + c)] 54))
    have k5L : Blk (w3.alloc (.cells #[.int .i64 2, .slice none 0 0, .int .i64 (1 + b), .int .i64 (1 + c)] 54)) w3.heap.size #[.int .i64 2, .slice none 0 0, .int .i64 (1 + b), .int .i64 (1 + c)] 54 := Blk.new _ rfl
    have HDL := Lib.hid (HD3.out.by ((Below.refl _ w3).alloc (Nat.le_refl _) (.cells #[.int .i64 2, .slice none 0 0, .int .i64 (1 + b), .int .i64 (1 + c)] 54)))
    have HWL := Lib.hid (HW1.out.alloc (.cells #[.int .i64 2, .slice none 0 0, .int .i64 (1 + b), .int .i64 (1 + c)] 54))
    have hsL : w3.heap.size < (w3.alloc (.cells #[.int .i64 2, .slice none 0 0, .int .i64 (1 + b), .int .i64 (1 + c)] 54)).heap.size := by simp
    go_wp2_with (go_at_call 101; refine (HRD.out (1 + b) (1 + c) _ (by omega) (by omega) (by omega) (by omega) (by omega)).mono ?_; rintro e w4 ⟨rfl, hb4⟩; replace kZL := Blk.by hb4 kZL; replace k5L := Blk.by hb4 k5L; replace HDL := Lib.hid (HDL.out.by hb4); replace HWL := Lib.hid (HWL.out.on (Within.ofBelowM g (g + 1) hb4)); have c54 := k5L.cell; have f54 := k5L.free; have l54 := k5L.lt; replace hsL := Nat.lt_of_lt_of_le hsL hb4.size)
    generalize redN (1 + b) (1 + c) = RN at *
    generalize redD (1 + b) (1 + c) = RD at *
    obtain ⟨B, hBq⟩ : ∃ B, w4.heap.size + 1 = B := ⟨_, rfl⟩
    have HBL : Hid (BldI (((w4.setCell ⟨w3.heap.size, 2, none⟩ (.int .i64 RN)).setCell ⟨w3.heap.size, 3, none⟩ (.int .i64 RD)).alloc (.cells #[.int .i64 RN, .int .i64 RD] 102)) B B (.slice none 0 0) []) := Lib.hid (by have := BldI.nil (((w4.setCell ⟨w3.heap.size, 2, none⟩ (.int .i64 RN)).setCell ⟨w3.heap.size, 3, none⟩ (.int .i64 RD)).alloc (.cells #[.int .i64 RN, .int .i64 RD] 102)) B; simpa [hBq] using this)
    go_loopw [6] (fun z wr => ∃ (q : Nat) (v : Value) (zs : List Int) (hi : Nat) (W L : Int), z = .int .i64 q ∧ zs.length + q = 2 ∧ B ≤ hi ∧ Blk wr w3.heap.size #[.int .i64 2, v, .int .i64 W, .int .i64 L] 54 ∧ Hid (Blk wr w.heap.size #[.int .i64 0, .slice none 0 0, .int .i64 0, .int .i64 0] 54) ∧ Hid (BldI wr B hi v zs) ∧ Hid (Src1 W0 g sv n wr) ∧ Hid (Within g (g + 1) w wr)) (fun z _ => (intOf z).toNat)
    case atStart => exact ⟨2, .slice none 0 0, [], B, RN, RD, rfl, rfl, Nat.le_refl _, ((k5L.set 2 _).set 3 _).past _, Lib.hid (((kZL.apart w3.heap.size 2 _ (by omega)).apart w3.heap.size 3 _ (by omega)).past _), HBL, Lib.hid (((HDL.out.apart (b := w3.heap.size) (by omega) (by have := HD.out.1; omega)).apart (b := w3.heap.size) (by omega) (by have := HD.out.1; omega)).by ((Below.refl _ _).alloc (Nat.le_refl _) _)), Lib.hid (((HWL.out.new w3.heap.size _ _ (by omega)).new w3.heap.size _ _ (by omega)).alloc _)⟩
    case round =>
      clear HDL HWL kZL k5L HBL
      obtain ⟨q, v, zs, hi, W, L, rfl, hzq, hBhi, k5, HZ, HB, HDr, HWr⟩ := hrel
      obtain ⟨av, cv, rfl⟩ := HB.out.sized
      have hhi := HB.out.1
      have l5 := k5.lt
      have c51 : wr.cell? ⟨w3.heap.size, 1, none⟩ = some (.slice av zs.length cv) := k5.cell 1
      by_cases hq : 0 < q
      · obtain ⟨r, rfl⟩ : ∃ r, q = r + 1 := ⟨q - 1, by omega⟩
        have i1 : (0 : Int) < ((r + 1 : Nat) : Int) := by omega
        have wq : IntKind.i64.wrap (((r + 1 : Nat) : Int) - 1) = (r : Int) := by simp [IntKind.wrap, IntKind.bits, IntKind.signed]; omega
        have hzl : zs.length ≤ 3 := by omega
        have HB2 := HB
        go_wp2
        go_region_law
          (first | (go_simp; go_at_call 32; refine (HN.out _ _ (HDr.out.by (below_of_drewN wr 1)) (by omega)).mono ?_; rintro e w5 ⟨y, rfl, hy0, hy1, hD5, ho5⟩; have HD5 := Lib.hid hD5; have k55 := ho5.within.blk k5.drew (by omega); have c55 : w5.cell? ⟨w3.heap.size, 1, none⟩ = some (.slice av zs.length cv) := k55.cell 1; have l55 := k55.lt; clear hD5; dsimp only) | (refine step_pushI (by rfl) _ _ (by rfl) B hi _ zs [y] (by rfl) ((BldI.only ho5 (HB2.out.by (below_of_drewN wr 1)) (by omega)).by blwT) w5.heap.size 1 #[.int .i64 y] (by rfl) (by rfl) (by omega) (Blk.new _ rfl) (by rfl) (by omega) (by omega) ?_; intro a' c' w6 hB6 hw6; have HB6 := Lib.hid hB6; have k56 := hw6.blk (k55.past (.cells #[.int .i64 y] 2)) (by omega); have c56 : w6.cell? ⟨w3.heap.size, 1, none⟩ = some (.slice av zs.length cv) := k56.cell 1; have f56 : w6.frozen? ⟨w3.heap.size, 1, none⟩ = false := k56.free 1; have l56 := k56.lt; clear hB6))
        all_goals
          have hs6 := hw6.size
          simp only [World.size_alloc] at hs6
          have hs5 := ho5.within.size
          (try simp only [World.size_drew] at hs5)
          have hs5' : wr.heap.size ≤ w5.heap.size := hs5
          have HD6 := Lib.hid (Src1.within hw6 (HD5.out.by ((Below.refl _ w5).alloc (Nat.le_refl _) (.cells #[.int .i64 y] 2))) (by omega) (by have := HD.out.1; omega))
          have kZ6 := hw6.blk ((ho5.within.blk HZ.out.drew (by omega)).past (.cells #[.int .i64 y] 2)) (by omega)
          have HW6 := Lib.hid (((((HWr.out.drewN 1).on ho5.within).alloc (.cells #[.int .i64 y] 2)).newerM hw6 (by omega)))
          have HKZ := Lib.hid kZ6
          clear kZ6
          go_wp2
          all_goals first
            | refine ⟨⟨r, .slice a' (zs.length + 1) c', zs ++ [y], w6.heap.size, W, L, by first | rfl | (rw [wq]) | go_num, by simp <;> omega, by omega, by simpa using k56.set 1 _, Lib.hid (HKZ.out.apart _ _ _ (by omega)), Lib.hid (by simpa using HB6.out.past (Within.off _) (.inl (by omega))), Lib.hid (HD6.out.apart (by omega) (by have := HD.out.1; omega)), Lib.hid (HW6.out.new _ _ _ (by omega))⟩, by simp [intOf] <;> omega⟩
            | refine ⟨⟨r, rfl, .slice a' (zs.length + 1) c', zs ++ [y], by simp <;> omega, w6.heap.size, by omega, ⟨W, L, by simpa using k56.set 1 _⟩, Lib.hid (HKZ.out.apart _ _ _ (by omega)), Lib.hid (by simpa using HB6.out.past (Within.off _) (.inl (by omega))), Lib.hid (HD6.out.apart (by omega) (by have := HD.out.1; omega)), Lib.hid (HW6.out.new _ _ _ (by omega))⟩, by simp [intOf] <;> omega⟩
      · obtain rfl : q = 0 := by omega
        have i1 : ¬ (0 : Int) < ((0 : Nat) : Int) := by omega
        obtain ⟨f, hBf, hf1, hf2⟩ := HB.out.one (by omega)
        have HBF := Lib.hid hBf
        have kZr := HZ.out
        have c5 := k5.cell
        have cZ := kZr.cell
        have fZ := kZr.free
        have lZr := kZr.lt
        have hpl : 2 ≤ zs.length ∧ zs.length ≤ 3 := by omega
        clear hBf c51 HB hzq
        go_wp2
        refine bodyPost_ret (v := .agg #[.int .i64 2, .slice av zs.length cv, .int .i64 W, .int .i64 L]) (by simp [results, Tryz.results85, go_sem, *]) rfl ⟨⟨2, zs, W, L⟩, _, rfl, hpl, f, ?_, by omega, ?_, ?_⟩
        · exact (((HBF.out.past (Within.off _) (.inl (by omega))).past (Within.off _) (.inl (by omega))).past (Within.off _) (.inl (by omega))).past (Within.off _) (.inl (by omega))
        · exact (((HDr.out.apart (by omega) (by have := HD.out.1; omega)).apart (by omega) (by have := HD.out.1; omega)).apart (by omega) (by have := HD.out.1; omega)).apart (by omega) (by have := HD.out.1; omega)
        · exact (((HWr.out.new _ _ _ (by omega)).new _ _ _ (by omega)).new _ _ _ (by omega)).new _ _ _ (by omega)
  · have hk' : ¬ (a = 2) := hk
    have kZL := (kZ.past (.cells #[.int .i64 a, .slice none 0 0, .int .i64 (1 + b), .int .i64 (1 + c)] 54))
    have k5L : Blk (w3.alloc (.cells #[.int .i64 a, .slice none 0 0, .int .i64 (1 + b), .int .i64 (1 + c)] 54)) w3.heap.size #[.int .i64 a, .slice none 0 0, .int .i64 (1 + b), .int .i64 (1 + c)] 54 := Blk.new _ rfl
    have HDL := Lib.hid (HD3.out.by ((Below.refl _ w3).alloc (Nat.le_refl _) (.cells #[.int .i64 a, .slice none 0 0, .int .i64 (1 + b), .int .i64 (1 + c)] 54)))
    have HWL := Lib.hid (HW1.out.alloc (.cells #[.int .i64 a, .slice none 0 0, .int .i64 (1 + b), .int .i64 (1 + c)] 54))
    have hsL : w3.heap.size < (w3.alloc (.cells #[.int .i64 a, .slice none 0 0, .int .i64 (1 + b), .int .i64 (1 + c)] 54)).heap.size := by simp
    obtain ⟨B, hBq⟩ : ∃ B, w3.heap.size + 1 = B := ⟨_, rfl⟩
    have HBL : Hid (BldI (w3.alloc (.cells #[.int .i64 a, .slice none 0 0, .int .i64 (1 + b), .int .i64 (1 + c)] 54)) B B (.slice none 0 0) []) := Lib.hid (by have := BldI.nil (w3.alloc (.cells #[.int .i64 a, .slice none 0 0, .int .i64 (1 + b), .int .i64 (1 + c)] 54)) B; simpa [hBq] using this)
    go_wp2
    go_loopw [6] (fun z wr => ∃ (q : Nat) (v : Value) (zs : List Int) (hi : Nat) (W L : Int), z = .int .i64 q ∧ zs.length + q = 3 ∧ B ≤ hi ∧ Blk wr w3.heap.size #[.int .i64 a, v, .int .i64 W, .int .i64 L] 54 ∧ Hid (Blk wr w.heap.size #[.int .i64 0, .slice none 0 0, .int .i64 0, .int .i64 0] 54) ∧ Hid (BldI wr B hi v zs) ∧ Hid (Src1 W0 g sv n wr) ∧ Hid (Within g (g + 1) w wr)) (fun z _ => (intOf z).toNat)
    case atStart => exact ⟨3, .slice none 0 0, [], B, 1 + b, 1 + c, rfl, rfl, Nat.le_refl _, k5L, Lib.hid kZL, HBL, HDL, HWL⟩
    case round =>
      clear HDL HWL kZL k5L HBL
      obtain ⟨q, v, zs, hi, W, L, rfl, hzq, hBhi, k5, HZ, HB, HDr, HWr⟩ := hrel
      obtain ⟨av, cv, rfl⟩ := HB.out.sized
      have hhi := HB.out.1
      have l5 := k5.lt
      have c51 : wr.cell? ⟨w3.heap.size, 1, none⟩ = some (.slice av zs.length cv) := k5.cell 1
      by_cases hq : 0 < q
      · obtain ⟨r, rfl⟩ : ∃ r, q = r + 1 := ⟨q - 1, by omega⟩
        have i1 : (0 : Int) < ((r + 1 : Nat) : Int) := by omega
        have wq : IntKind.i64.wrap (((r + 1 : Nat) : Int) - 1) = (r : Int) := by simp [IntKind.wrap, IntKind.bits, IntKind.signed]; omega
        have hzl : zs.length ≤ 3 := by omega
        have HB2 := HB
        go_wp2
        go_region_law
          (first | (go_simp; go_at_call 32; refine (HN.out _ _ (HDr.out.by (below_of_drewN wr 1)) (by omega)).mono ?_; rintro e w5 ⟨y, rfl, hy0, hy1, hD5, ho5⟩; have HD5 := Lib.hid hD5; have k55 := ho5.within.blk k5.drew (by omega); have c55 : w5.cell? ⟨w3.heap.size, 1, none⟩ = some (.slice av zs.length cv) := k55.cell 1; have l55 := k55.lt; clear hD5; dsimp only) | (refine step_pushI (by rfl) _ _ (by rfl) B hi _ zs [y] (by rfl) ((BldI.only ho5 (HB2.out.by (below_of_drewN wr 1)) (by omega)).by blwT) w5.heap.size 1 #[.int .i64 y] (by rfl) (by rfl) (by omega) (Blk.new _ rfl) (by rfl) (by omega) (by omega) ?_; intro a' c' w6 hB6 hw6; have HB6 := Lib.hid hB6; have k56 := hw6.blk (k55.past (.cells #[.int .i64 y] 2)) (by omega); have c56 : w6.cell? ⟨w3.heap.size, 1, none⟩ = some (.slice av zs.length cv) := k56.cell 1; have f56 : w6.frozen? ⟨w3.heap.size, 1, none⟩ = false := k56.free 1; have l56 := k56.lt; clear hB6))
        all_goals
          have hs6 := hw6.size
          simp only [World.size_alloc] at hs6
          have hs5 := ho5.within.size
          (try simp only [World.size_drew] at hs5)
          have hs5' : wr.heap.size ≤ w5.heap.size := hs5
          have HD6 := Lib.hid (Src1.within hw6 (HD5.out.by ((Below.refl _ w5).alloc (Nat.le_refl _) (.cells #[.int .i64 y] 2))) (by omega) (by have := HD.out.1; omega))
          have kZ6 := hw6.blk ((ho5.within.blk HZ.out.drew (by omega)).past (.cells #[.int .i64 y] 2)) (by omega)
          have HW6 := Lib.hid (((((HWr.out.drewN 1).on ho5.within).alloc (.cells #[.int .i64 y] 2)).newerM hw6 (by omega)))
          have HKZ := Lib.hid kZ6
          clear kZ6
          go_wp2
          all_goals first
            | refine ⟨⟨r, .slice a' (zs.length + 1) c', zs ++ [y], w6.heap.size, W, L, by first | rfl | (rw [wq]) | go_num, by simp <;> omega, by omega, by simpa using k56.set 1 _, Lib.hid (HKZ.out.apart _ _ _ (by omega)), Lib.hid (by simpa using HB6.out.past (Within.off _) (.inl (by omega))), Lib.hid (HD6.out.apart (by omega) (by have := HD.out.1; omega)), Lib.hid (HW6.out.new _ _ _ (by omega))⟩, by simp [intOf] <;> omega⟩
            | refine ⟨⟨r, rfl, .slice a' (zs.length + 1) c', zs ++ [y], by simp <;> omega, w6.heap.size, by omega, ⟨W, L, by simpa using k56.set 1 _⟩, Lib.hid (HKZ.out.apart _ _ _ (by omega)), Lib.hid (by simpa using HB6.out.past (Within.off _) (.inl (by omega))), Lib.hid (HD6.out.apart (by omega) (by have := HD.out.1; omega)), Lib.hid (HW6.out.new _ _ _ (by omega))⟩, by simp [intOf] <;> omega⟩
      · obtain rfl : q = 0 := by omega
        have i1 : ¬ (0 : Int) < ((0 : Nat) : Int) := by omega
        obtain ⟨f, hBf, hf1, hf2⟩ := HB.out.one (by omega)
        have HBF := Lib.hid hBf
        have kZr := HZ.out
        have c5 := k5.cell
        have cZ := kZr.cell
        have fZ := kZr.free
        have lZr := kZr.lt
        have hpl : 2 ≤ zs.length ∧ zs.length ≤ 3 := by omega
        clear hBf c51 HB hzq
        go_wp2
        refine bodyPost_ret (v := .agg #[.int .i64 a, .slice av zs.length cv, .int .i64 W, .int .i64 L]) (by simp [results, Tryz.results85, go_sem, *]) rfl ⟨⟨a, zs, W, L⟩, _, rfl, hpl, f, ?_, by omega, ?_, ?_⟩
        · exact (((HBF.out.past (Within.off _) (.inl (by omega))).past (Within.off _) (.inl (by omega))).past (Within.off _) (.inl (by omega))).past (Within.off _) (.inl (by omega))
        · exact (((HDr.out.apart (by omega) (by have := HD.out.1; omega)).apart (by omega) (by have := HD.out.1; omega)).apart (by omega) (by have := HD.out.1; omega)).apart (by omega) (by have := HD.out.1; omega)
        · exact (((HWr.out.new _ _ _ (by omega)).new _ _ _ (by omega)).new _ _ _ (by omega)).new _ _ _ (by omega)
/- The draw of a netlist: some netlist of at most six devices and six ports, in memory of its own that may grow. -/
theorem BldD.only {g : Nat} {w w' : World} {lo hi : Nat} {v : Value} {ds : List Dv} (ho : Only g w w') (h : BldD w lo hi v ds) (hg : g < lo) : BldD w' lo hi v ds := BldD.past ho.within h (.inl (by omega))
theorem BldP.only {g : Nat} {w w' : World} {lo hi : Nat} {v : Value} {ds : List Pt} (ho : Only g w w') (h : BldP w lo hi v ds) (hg : g < lo) : BldP w' lo hi v ds := BldP.past ho.within h (.inl (by omega))
theorem BldD.up {w : World} {lo hi hi' : Nat} {v : Value} {ds : List Dv} (h : BldD w lo hi v ds) (h1 : hi ≤ hi') (h2 : hi' ≤ w.heap.size) : BldD w lo hi' v ds := by
  obtain ⟨hs, pvs, f, a1, a2, a3, a4, a5⟩ := h
  exact ⟨h2, pvs, f, a1, a2, fun g hg => by have := a3 g hg; omega, fun i x pv hx hp => by obtain ⟨b1, b2, b3⟩ := a4 i x pv hx hp; exact ⟨b1, by omega, b3⟩, a5⟩
theorem BldD.at {w : World} {lo hi b n c : Nat} {ds : List Dv} (h : BldD w lo hi (.slice (some ⟨b, 0, none⟩) n c) ds) (i : Nat) (x : Dv) (hx : ds[i]? = some x) : ∃ sx, w.cell? ⟨b, i * 4, none⟩ = some (.int .i64 x.kind) ∧ w.cell? ⟨b, i * 4 + 1, none⟩ = some sx ∧ w.cell? ⟨b, i * 4 + 2, none⟩ = some (.int .i64 x.wd) ∧ w.cell? ⟨b, i * 4 + 3, none⟩ = some (.int .i64 x.len) ∧ IntSl w sx x.pins := by
  rcases h.own with ⟨_, _, _, h2⟩ | ⟨g, cap, cs, f, h1, h2, h3, h4, h5, h6, h7⟩
  · rw [h2] at hx; simp at hx
  · have hg : b = g := by injection h1 with e1; injection e1 with e1; injection e1
    subst hg
    obtain ⟨⟨pv, ⟨e1, e2, e3, e4⟩, hR⟩, _⟩ := h6 i x hx
    exact ⟨pv, by rw [Blk.cell h5]; exact e1, by rw [Blk.cell h5]; exact e2, by rw [Blk.cell h5]; exact e3, by rw [Blk.cell h5]; exact e4, hR.sl⟩
theorem BldD.ad {w : World} {lo hi c : Nat} {av : Option Addr} {ds : List Dv} (h : BldD w lo hi (.slice av ds.length c) ds) (h0 : 0 < ds.length) : ∃ b, av = some ⟨b, 0, none⟩ ∧ lo ≤ b ∧ b < hi := by
  rcases h.own with ⟨_, _, _, h2⟩ | ⟨g, cap, cs, f, h1, h2, h3, h4, h5, h6, h7⟩
  · rw [h2] at h0; simp at h0
  · exact ⟨g, by injection h1, h2.1, h2.2⟩
set_option maxRecDepth 100000 in
set_option maxHeartbeats 8000000 in
theorem l27DrawValid_any (W0 : World) (g : Nat) (sv : Value) (n : Nat) (w : World) (hD : Src1 W0 g sv n w) :
    Calls Tryz.prog 61 #[.pointer (some ⟨g, 0, none⟩), .int .i64 6] w fun e w' => ∃ (x : Nl) (dv pv : Value) (lo mid hi : Nat), e = .returned (.agg #[.int .i64 x.nets, dv, pv]) ∧ Hid (BldD w' lo mid dv x.ds) ∧ Hid (BldP w' mid hi pv x.ps) ∧ (w.heap.size ≤ lo ∧ lo ≤ mid ∧ mid ≤ hi ∧ hi ≤ w'.heap.size) ∧ (1 ≤ x.nets ∧ x.nets ≤ 6) ∧ x.ds.length ≤ 6 ∧ (∀ d ∈ x.ds, 2 ≤ d.pins.length ∧ d.pins.length ≤ 3) ∧ x.ps.length ≤ 6 ∧ (∀ p ∈ x.ps, p.ok) ∧ Hid (Src1 W0 g sv n w') ∧ Hid (Within g (g + 1) w w') := by
  have HN := Lib.hid (fun q w h hq => l01Next_any W0 g sv n q w h hq)
  have HDD := Lib.hid (fun m w h hq => l27DrawDevice_any W0 g sv n m hq w h)
  have hgl := hD.lt
  have hW0 : W0.heap.size ≤ g := hD.1
  have HD := Lib.hid hD
  clear hD
  go_enter Tryz.func61, Tryz.ntmps61
  go_wp2_with fail
  refine (HN.out _ _ (HD.out.by blwT) (by omega)).mono ?_
  rintro e w1 ⟨a, rfl, ha0, ha1, hD1, ho1⟩
  have kZ0 : Blk (w.alloc (.cells #[.int .i64 0, .slice none 0 0, .slice none 0 0] 27)) w.heap.size #[.int .i64 0, .slice none 0 0, .slice none 0 0] 27 := Blk.new _ rfl
  have kZ := ho1.within.blk kZ0 (by omega)
  have hW1 : Within g (g + 1) w w1 := ((Within.refl g (g + 1) w).alloc _).on ho1.within
  have wa : IntKind.i64.wrap (1 + a) = 1 + a := by simp [IntKind.wrap, IntKind.bits, IntKind.signed]; omega
  have w7 : IntKind.i64.wrap (6 + 1) = 7 := by decide
  have lZ := kZ.lt
  clear kZ0 ho1
  obtain ⟨N, hN⟩ : ∃ N, 1 + a = N := ⟨_, rfl⟩
  have hNb : 1 ≤ N ∧ N ≤ 6 := by omega
  rw [hN] at wa
  have HD1 := Lib.hid (hD1.by ((Below.refl _ w1).alloc (Nat.le_refl _) (.cells #[.int .i64 N, .slice none 0 0, .slice none 0 0] 27)))
  have HW1 := Lib.hid (hW1.alloc (.cells #[.int .i64 N, .slice none 0 0, .slice none 0 0] 27))
  have kZ1 := kZ.past (.cells #[.int .i64 N, .slice none 0 0, .slice none 0 0] 27)
  have k51 : Blk (w1.alloc (.cells #[.int .i64 N, .slice none 0 0, .slice none 0 0] 27)) w1.heap.size #[.int .i64 N, .slice none 0 0, .slice none 0 0] 27 := Blk.new _ rfl
  clear hD1 hW1 kZ
  go_wp2_with fail
  refine (HN.out _ _ HD1.out (by omega)).mono ?_
  rintro e w2 ⟨k, rfl, hk0, hk1, hD2, ho2⟩
  have kZ2 := ho2.within.blk kZ1 (by omega)
  have k52 := ho2.within.blk k51 (by omega)
  have hW2 := HW1.out.on ho2.within
  have hs2 := k52.lt
  obtain ⟨P, hP⟩ : ∃ P, w1.heap.size = P := ⟨_, rfl⟩
  rw [hP] at k52 lZ hs2
  obtain ⟨B, hB⟩ : ∃ B, w2.heap.size = B := ⟨_, rfl⟩
  have hBl := BldD.nil w2 B
  rw [hB] at hBl hs2
  obtain ⟨K, rfl⟩ : ∃ K : Nat, k = K := ⟨k.toNat, by omega⟩
  have HBL0 := Lib.hid hBl
  have HD2 := Lib.hid hD2
  have HW2 := Lib.hid hW2
  have HZ2 := Lib.hid kZ2
  rw [hP]
  clear hBl hD2 hW2 kZ1 kZ2 k51 HD1 HW1 ho2 hP hB
  go_wp2
  go_loopw [6] (fun z wr => ∃ (q : Nat) (v : Value) (ds : List Dv) (hi : Nat), Hid (z = .int .i64 (q : Int)) ∧ Hid (ds.length + q ≤ 6) ∧ Hid (B ≤ hi) ∧ Hid (∀ d ∈ ds, 2 ≤ d.pins.length ∧ d.pins.length ≤ 3) ∧ Hid (Blk wr P #[.int .i64 N, v, .slice none 0 0] 27) ∧ Hid (Blk wr w.heap.size #[.int .i64 0, .slice none 0 0, .slice none 0 0] 27) ∧ Hid (BldD wr B hi v ds) ∧ Hid (Src1 W0 g sv n wr) ∧ Hid (Within g (g + 1) w wr)) (fun z _ => (intOf z).toNat)
  case atStart => exact ⟨K, .slice none 0 0, [], B, Lib.hid rfl, Lib.hid (by simp; omega), Lib.hid (Nat.le_refl _), Lib.hid (by simp), Lib.hid k52, HZ2, HBL0, HD2, HW2⟩
  case round =>
    clear HBL0 HD2 HW2 HZ2 k52
    obtain ⟨q, v, ds, hi, HZQ, HQ, HBH, HPN, H5, HZ, HBL, HDr, HWr⟩ := hrel
    obtain rfl := HZQ.out
    have hql := HQ.out
    have hBhi := HBH.out
    obtain ⟨av, cv, rfl⟩ := HBL.out.sized
    have hhi := HBL.out.1
    have k5 := H5.out
    have c5 := k5.cell
    have l5 := k5.lt
    clear HZQ
    by_cases hq : 0 < q
    · obtain ⟨r, rfl⟩ : ∃ r, q = r + 1 := ⟨q - 1, by omega⟩
      have i1 : (0 : Int) < ((r + 1 : Nat) : Int) := by omega
      have wq : IntKind.i64.wrap (((r + 1 : Nat) : Int) - 1) = (r : Int) := by simp [IntKind.wrap, IntKind.bits, IntKind.signed]; omega
      go_wp2_with fail
      refine (HDD.out _ _ HDr.out (by omega)).mono ?_
      rintro e w3 ⟨d, pv, f, rfl, hdp, hBf, hf1, hD3, hW3⟩
      obtain ⟨ap, cp, rfl⟩ := hBf.sized
      have hf2 := hBf.1
      have k53 := hW3.blk k5 (by omega)
      have kZ3 := hW3.blk HZ.out (by omega)
      have hBL3 := BldD.past hW3 HBL.out (.inl (by omega))
      have hWr3 := HWr.out.on hW3
      have kD3 : Blk (w3.alloc (.cells #[.int .i64 d.kind, .slice ap d.pins.length cp, .int .i64 d.wd, .int .i64 d.len] 54)) w3.heap.size #[.int .i64 d.kind, .slice ap d.pins.length cp, .int .i64 d.wd, .int .i64 d.len] 54 := Blk.new _ rfl
      have hb3 : Below w3.heap.size w3 (w3.alloc (.cells #[.int .i64 d.kind, .slice ap d.pins.length cp, .int .i64 d.wd, .int .i64 d.len] 54)) := (Below.refl _ w3).alloc (Nat.le_refl _) _
      have hs3 : (w3.alloc (.cells #[.int .i64 d.kind, .slice ap d.pins.length cp, .int .i64 d.wd, .int .i64 d.len] 54)).heap.size = w3.heap.size + 1 := by simp
      have k54 := Blk.by hb3 k53
      have kZ4 := Blk.by hb3 kZ3
      have HBL4 := Lib.hid (hBL3.by hb3)
      have HBF4 := Lib.hid (hBf.by hb3)
      have HD4 := Lib.hid (hD3.by hb3)
      have HW4 := Lib.hid (hWr3.alloc (.cells #[.int .i64 d.kind, .slice ap d.pins.length cp, .int .i64 d.wd, .int .i64 d.len] 54))
      have hlr := hW3.size
      obtain ⟨D, hDq⟩ : ∃ D, w3.heap.size = D := ⟨_, rfl⟩
      rw [hDq] at kD3 hs3 hf2 hlr
      have HDP := Lib.hid hdp
      have HZ4 := Lib.hid kZ4
      go_upto_region 6 with fail
      (try rw [hDq])
      replace hs3 := And.intro (Nat.le_of_eq hs3) (Nat.le_of_eq hs3.symm)
      clear hDq c5 l5 k5 H5 HZ HBL HDr HWr k53 kZ3 hBL3 hWr3 hb3 hBf hD3 hW3 kZ4 hdp
      generalize w3.alloc (.cells #[.int .i64 d.kind, .slice ap d.pins.length cp, .int .i64 d.wd, .int .i64 d.len] 54) = w4 at *
      have c5 := k54.cell
      have l5 := k54.lt
      have cD := kD3.cell
      have lD := kD3.lt
      by_cases hds : ds = []
      · have hdi : ¬ (0 : Int) < (ds.length : Int) := by simp [hds]
        clear hds
        have HBLS := HBL4
        have HBFS := HBF4
        have HDS := HD4
        have HWS := HW4
        have HZS := HZ4
        have k5S := k54
        go_wp2_with (refine list_pushD (by rfl) _ _ (by rfl) B hi (.slice av ds.length cv) ds (by rfl) (HBLS.out.by blwT) w4.heap.size d _ f (by rfl) (Blk.new _ rfl) (HBFS.out.by ((Below.refl _ w4).alloc (Nat.le_refl _) _)) hBhi (by omega) (by simp; omega) (by omega) ?_; intro a8 c8 w8 hB8 hw8; have HB8 := Lib.hid hB8; have k58 := hw8.blk (k5S.past (.cells #[.int .i64 d.kind, .slice ap d.pins.length cp, .int .i64 d.wd, .int .i64 d.len] 54)) (by omega); have c58 := k58.cell; have f58 := k58.free; have l58 := k58.lt; clear hB8)
        have hs8 := hw8.size
        simp only [World.size_alloc] at hs8
        have HD8 := Lib.hid (Src1.within hw8 (HDS.out.by ((Below.refl _ w4).alloc (Nat.le_refl _) (.cells #[.int .i64 d.kind, .slice ap d.pins.length cp, .int .i64 d.wd, .int .i64 d.len] 54))) (by omega) (by omega))
        have HZ8 := Lib.hid (hw8.blk (HZS.out.past (.cells #[.int .i64 d.kind, .slice ap d.pins.length cp, .int .i64 d.wd, .int .i64 d.len] 54)) (by omega))
        have HW8 := Lib.hid ((HWS.out.alloc (.cells #[.int .i64 d.kind, .slice ap d.pins.length cp, .int .i64 d.wd, .int .i64 d.len] 54)).newerM hw8 (by omega))
        have HPN8 : Hid (∀ e ∈ ds ++ [d], 2 ≤ e.pins.length ∧ e.pins.length ≤ 3) := Lib.hid (by
          intro e he
          rcases List.mem_append.1 he with h | h
          · exact HPN.out e h
          · obtain rfl := List.mem_singleton.1 h; exact HDP.out)
        first
          | refine ⟨⟨r, .slice a8 (ds.length + 1) c8, ds ++ [d], w8.heap.size, Lib.hid (by first | rfl | (rw [wq])), Lib.hid (by simp; omega), Lib.hid (by omega), HPN8, Lib.hid (k58.set 1 _), Lib.hid (HZ8.out.apart _ _ _ (by omega)), Lib.hid (by simpa using HB8.out.past (Within.off _) (.inl (by omega))), Lib.hid (HD8.out.apart (by omega) (by omega)), Lib.hid (HW8.out.new _ _ _ (by omega))⟩, by simp [intOf] <;> omega⟩
      · have hdl : 0 < ds.length := List.length_pos_iff.2 hds
        clear hds
        have hdi : (0 : Int) < (ds.length : Int) := by omega
        go_wp2_with fail
        refine (HN.out _ _ HD4.out (by omega)).mono ?_
        rintro e w5 ⟨y, rfl, hy0, hy1, hD5, ho5⟩
        have HBLS := Lib.hid (HBL4.out.only ho5 (by omega))
        have HBFS := Lib.hid (HBF4.out.only ho5 (by omega))
        have HDS := Lib.hid hD5
        have HWS := Lib.hid (HW4.out.on ho5.within)
        have HZS := Lib.hid (ho5.within.blk HZ4.out (by omega))
        have k5S := ho5.within.blk k54 (by omega)
        have kDS := ho5.within.blk kD3 (by omega)
        have hs5 : w4.heap.size ≤ w5.heap.size ∧ w5.heap.size ≤ w4.heap.size := ⟨Nat.le_of_eq ho5.size.symm, Nat.le_of_eq ho5.size⟩
        clear c5 l5 cD lD HBL4 HBF4 HD4 HW4 HZ4 k54 kD3 hD5 ho5
        have c5 := k5S.cell
        have l5 := k5S.lt
        have cD := kDS.cell
        have lD := kDS.lt
        by_cases hy : y = 0
        · subst hy
          go_upto_region 7 with fail
          obtain ⟨b, rfl, hb1, hb2⟩ := HBLS.out.ad hdl
          have HCD := Lib.hid (fun (x : Dv) sx w h hne hn => own_bld x.kind x.wd x.len sx x.pins w h hne hn)
          have HBL5 := HBLS
          have HD5 := HDS
          clear c5
          have c51 : w5.cell? ⟨P, 1, none⟩ = some (.slice (some ⟨b, 0, none⟩) ds.length cv) := k5S.cell 1
          go_region_law
            (first | (go_simp; go_at_call 32; refine (HN.out _ _ (HD5.out.by (below_of_drewN w5 1)) (by omega)).mono ?_; rintro e w6 ⟨y2, rfl, hy20, hy21, hD6, ho6⟩; have HD6 := Lib.hid hD6; have hBL6 := (HBL5.out.by (below_of_drewN w5 1)).only ho6 (by omega); have HBL6 := Lib.hid hBL6; have k56 := ho6.within.blk k5S.drew (by omega); have c56 : w6.cell? ⟨P, 1, none⟩ = some (.slice (some ⟨b, 0, none⟩) ds.length cv) := k56.cell 1; have l56 := k56.lt; have kD6 := ho6.within.blk kDS.drew (by omega); (obtain ⟨Y, rfl⟩ : ∃ Y : Nat, y2 = Y := ⟨y2.toNat, by omega⟩); have hY : Y < ds.length := (by omega); have hYi : (Y : Int) < (ds.length : Int) := (by omega); (obtain ⟨x, hx⟩ : ∃ x, ds[Y]? = some x := ⟨ds[Y], List.getElem?_eq_getElem hY⟩); have hxm := HPN.out x (List.mem_of_getElem? hx); (obtain ⟨sx, e1, e2, e3, e4, hSx⟩ := hBL6.at Y x hx); (obtain ⟨ax, cx, rfl⟩ := hSx.len); have HSX := Lib.hid hSx; have lX := lt_of_cell e1; clear hBL6 hD6 hSx; dsimp only at lX ⊢) | (go_simp; go_at_call 82; refine (HCD.out x _ _ HSX.out (by intro e; rw [e] at hxm; simp at hxm) (by omega)).mono ?_; rintro e w7 ⟨v7, g7, rfl, hB7, hg7, hb7⟩; (obtain ⟨a7, c7, rfl⟩ := hB7.sized); have HB7 := Lib.hid hB7; have kD7 := Blk.by hb7 kD6; have cD7 := kD7.cell; have fD7 := kD7.free; have lD7 := kD7.lt; clear hB7))
          all_goals
            have hlo6 := HBL6.out.1
            have hsz6 : w5.heap.size ≤ w6.heap.size := ho6.within.size
            have hsz7 := hb7.size
            have HBL7 := Lib.hid (HBL6.out.by hb7)
            have HZ7 := Lib.hid (Blk.by hb7 (ho6.within.blk HZS.out.drew (by omega)))
            have HD7 := Lib.hid (HD6.out.by hb7)
            have HW7 := Lib.hid (((HWS.out.drewN 1).on ho6.within).on (Within.ofBelowM g (g + 1) hb7))
            have k57 := Blk.by hb7 k56
            have hbW : Within D (D + 1) w7 ((((w7.setCell ⟨D, 0, none⟩ (.int .i64 x.kind)).setCell ⟨D, 1, none⟩ (.slice a7 x.pins.length c7)).setCell ⟨D, 2, none⟩ (.int .i64 x.wd)).setCell ⟨D, 3, none⟩ (.int .i64 x.len)) := (((Within.off _).on (Within.off _)).on (Within.off _)).on (Within.off _)
            have kD9 : Blk ((((w7.setCell ⟨D, 0, none⟩ (.int .i64 x.kind)).setCell ⟨D, 1, none⟩ (.slice a7 x.pins.length c7)).setCell ⟨D, 2, none⟩ (.int .i64 x.wd)).setCell ⟨D, 3, none⟩ (.int .i64 x.len)) D #[.int .i64 x.kind, .slice a7 x.pins.length c7, .int .i64 x.wd, .int .i64 x.len] 54 := by simpa using (((kD7.set 0 (.int .i64 x.kind)).set 1 (.slice a7 x.pins.length c7)).set 2 (.int .i64 x.wd)).set 3 (.int .i64 x.len)
            have HW9 := Lib.hid ((((HW7.out.new D 0 (.int .i64 x.kind) (by omega)).new D 1 (.slice a7 x.pins.length c7) (by omega)).new D 2 (.int .i64 x.wd) (by omega)).new D 3 (.int .i64 x.len) (by omega))
            have HBL9 := Lib.hid (HBL7.out.past hbW (.inr (by omega)))
            have HBF9 := Lib.hid (HB7.out.past hbW (.inl (by omega)))
            have HD9 := Lib.hid (Src1.within hbW HD7.out (by omega) (by omega))
            have HZ9 := Lib.hid (hbW.blk HZ7.out (by omega))
            have k59 := hbW.blk k57 (by omega)
            clear HBLS HBFS HDS HWS HZS k5S kDS l5 cD lD c51 HBL5 HD5 HBL6 HD6 k56 c56 l56 kD6 HB7 kD7 cD7 fD7 lD7 hb7 HBL7 HZ7 HD7 HW7 k57 hbW e1 e2 e3 e4 HSX lX ho6 HDP
            generalize ((((w7.setCell ⟨D, 0, none⟩ (.int .i64 x.kind)).setCell ⟨D, 1, none⟩ (.slice a7 x.pins.length c7)).setCell ⟨D, 2, none⟩ (.int .i64 x.wd)).setCell ⟨D, 3, none⟩ (.int .i64 x.len)) = w9 at *
            have HBLS := HBL9
            have HBFS := HBF9
            have HDS := HD9
            have HWS := HW9
            have HZS := HZ9
            have k5S := k59
            have HDP := Lib.hid hxm
            have hg9 := HBFS.out.1
            have c5 := k5S.cell
            have l5 := k5S.lt
            have cD := kD9.cell
            have lD := kD9.lt
            clear hx hxm
            go_wp2_with (refine list_pushD (by rfl) _ _ (by rfl) B hi (.slice (some ⟨b, 0, none⟩) ds.length cv) ds (by rfl) (HBLS.out.by blwT) w9.heap.size x _ g7 (by rfl) (Blk.new _ rfl) (HBFS.out.by ((Below.refl _ w9).alloc (Nat.le_refl _) _)) hBhi (by omega) (by simp; omega) (by omega) ?_; intro a8 c8 w8 hB8 hw8; have HB8 := Lib.hid hB8; have k58 := hw8.blk (k5S.past (.cells #[.int .i64 x.kind, .slice a7 x.pins.length c7, .int .i64 x.wd, .int .i64 x.len] 54)) (by omega); have c58 := k58.cell; have f58 := k58.free; have l58 := k58.lt; clear hB8)
            have hs8 := hw8.size
            simp only [World.size_alloc] at hs8
            have HD8 := Lib.hid (Src1.within hw8 (HDS.out.by ((Below.refl _ w9).alloc (Nat.le_refl _) (.cells #[.int .i64 x.kind, .slice a7 x.pins.length c7, .int .i64 x.wd, .int .i64 x.len] 54))) (by omega) (by omega))
            have HZ8 := Lib.hid (hw8.blk (HZS.out.past (.cells #[.int .i64 x.kind, .slice a7 x.pins.length c7, .int .i64 x.wd, .int .i64 x.len] 54)) (by omega))
            have HW8 := Lib.hid ((HWS.out.alloc (.cells #[.int .i64 x.kind, .slice a7 x.pins.length c7, .int .i64 x.wd, .int .i64 x.len] 54)).newerM hw8 (by omega))
            have HPN8 : Hid (∀ e ∈ ds ++ [x], 2 ≤ e.pins.length ∧ e.pins.length ≤ 3) := Lib.hid (by
              intro e he
              rcases List.mem_append.1 he with h | h
              · exact HPN.out e h
              · obtain rfl := List.mem_singleton.1 h; exact HDP.out)
            first
              | refine ⟨⟨r, .slice a8 (ds.length + 1) c8, ds ++ [x], w8.heap.size, Lib.hid (by first | rfl | (rw [wq])), Lib.hid (by simp; omega), Lib.hid (by omega), HPN8, Lib.hid (k58.set 1 _), Lib.hid (HZ8.out.apart _ _ _ (by omega)), Lib.hid (by simpa using HB8.out.past (Within.off _) (.inl (by omega))), Lib.hid (HD8.out.apart (by omega) (by omega)), Lib.hid (HW8.out.new _ _ _ (by omega))⟩, by simp [intOf] <;> omega⟩
        · have hyi : ¬ (y = 0) := hy
          go_wp2_with (refine list_pushD (by rfl) _ _ (by rfl) B hi (.slice av ds.length cv) ds (by rfl) (HBLS.out.by blwT) w5.heap.size d _ f (by rfl) (Blk.new _ rfl) (HBFS.out.by ((Below.refl _ w5).alloc (Nat.le_refl _) _)) hBhi (by omega) (by simp; omega) (by omega) ?_; intro a8 c8 w8 hB8 hw8; have HB8 := Lib.hid hB8; have k58 := hw8.blk (k5S.past (.cells #[.int .i64 d.kind, .slice ap d.pins.length cp, .int .i64 d.wd, .int .i64 d.len] 54)) (by omega); have c58 := k58.cell; have f58 := k58.free; have l58 := k58.lt; clear hB8)
          have hs8 := hw8.size
          simp only [World.size_alloc] at hs8
          have HD8 := Lib.hid (Src1.within hw8 (HDS.out.by ((Below.refl _ w5).alloc (Nat.le_refl _) (.cells #[.int .i64 d.kind, .slice ap d.pins.length cp, .int .i64 d.wd, .int .i64 d.len] 54))) (by omega) (by omega))
          have HZ8 := Lib.hid (hw8.blk (HZS.out.past (.cells #[.int .i64 d.kind, .slice ap d.pins.length cp, .int .i64 d.wd, .int .i64 d.len] 54)) (by omega))
          have HW8 := Lib.hid ((HWS.out.alloc (.cells #[.int .i64 d.kind, .slice ap d.pins.length cp, .int .i64 d.wd, .int .i64 d.len] 54)).newerM hw8 (by omega))
          have HPN8 : Hid (∀ e ∈ ds ++ [d], 2 ≤ e.pins.length ∧ e.pins.length ≤ 3) := Lib.hid (by
            intro e he
            rcases List.mem_append.1 he with h | h
            · exact HPN.out e h
            · obtain rfl := List.mem_singleton.1 h; exact HDP.out)
          first
            | refine ⟨⟨r, .slice a8 (ds.length + 1) c8, ds ++ [d], w8.heap.size, Lib.hid (by first | rfl | (rw [wq])), Lib.hid (by simp; omega), Lib.hid (by omega), HPN8, Lib.hid (k58.set 1 _), Lib.hid (HZ8.out.apart _ _ _ (by omega)), Lib.hid (by simpa using HB8.out.past (Within.off _) (.inl (by omega))), Lib.hid (HD8.out.apart (by omega) (by omega)), Lib.hid (HW8.out.new _ _ _ (by omega))⟩, by simp [intOf] <;> omega⟩
    · obtain rfl : q = 0 := by omega
      have i1 : ¬ (0 : Int) < ((0 : Nat) : Int) := by omega
      have hbA : Below wr.heap.size wr (wr.alloc (.cells #[.string ⟨#[97]⟩, .string ⟨#[98]⟩, .string ⟨#[105, 110]⟩, .string ⟨#[111, 117, 116]⟩, .string ⟨#[118, 100, 100]⟩, .string ⟨#[118, 115, 115]⟩] 9)) := (Below.refl _ wr).alloc (Nat.le_refl _) _
      have hsA : wr.heap.size + 1 ≤ (wr.alloc (.cells #[.string ⟨#[97]⟩, .string ⟨#[98]⟩, .string ⟨#[105, 110]⟩, .string ⟨#[111, 117, 116]⟩, .string ⟨#[118, 100, 100]⟩, .string ⟨#[118, 115, 115]⟩] 9)).heap.size ∧ (wr.alloc (.cells #[.string ⟨#[97]⟩, .string ⟨#[98]⟩, .string ⟨#[105, 110]⟩, .string ⟨#[111, 117, 116]⟩, .string ⟨#[118, 100, 100]⟩, .string ⟨#[118, 115, 115]⟩] 9)).heap.size ≤ wr.heap.size + 1 := by constructor <;> simp
      have kNB : Blk (wr.alloc (.cells #[.string ⟨#[97]⟩, .string ⟨#[98]⟩, .string ⟨#[105, 110]⟩, .string ⟨#[111, 117, 116]⟩, .string ⟨#[118, 100, 100]⟩, .string ⟨#[118, 115, 115]⟩] 9)) wr.heap.size #[.string ⟨#[97]⟩, .string ⟨#[98]⟩, .string ⟨#[105, 110]⟩, .string ⟨#[111, 117, 116]⟩, .string ⟨#[118, 100, 100]⟩, .string ⟨#[118, 115, 115]⟩] 9 := Blk.new _ rfl
      have k5A := Blk.by hbA k5
      have HZA := Lib.hid (Blk.by hbA HZ.out)
      have HBLA := Lib.hid (HBL.out.by hbA)
      have HDA := Lib.hid (HDr.out.by hbA)
      have HWA := Lib.hid (HWr.out.alloc (.cells #[.string ⟨#[97]⟩, .string ⟨#[98]⟩, .string ⟨#[105, 110]⟩, .string ⟨#[111, 117, 116]⟩, .string ⟨#[118, 100, 100]⟩, .string ⟨#[118, 115, 115]⟩] 9))
      have hds6 : ds.length ≤ 6 := by omega
      go_wp2
      obtain ⟨NB, hNB⟩ : ∃ NB, wr.heap.size = NB := ⟨_, rfl⟩
      (try rw [hNB])
      rw [hNB] at kNB hsA hhi
      clear hNB hbA k5 c5 l5 HZ HBL HDr HWr H5
      generalize wr.alloc (.cells #[.string ⟨#[97]⟩, .string ⟨#[98]⟩, .string ⟨#[105, 110]⟩, .string ⟨#[111, 117, 116]⟩, .string ⟨#[118, 100, 100]⟩, .string ⟨#[118, 115, 115]⟩] 9) = wl at *
      obtain ⟨B2, hB2⟩ : ∃ B2, wl.heap.size = B2 := ⟨_, rfl⟩
      have hPl := BldP.nil wl B2
      rw [hB2] at hPl hsA
      have HPL0 := Lib.hid hPl
      have HNB := Lib.hid kNB
      have H5A := Lib.hid k5A
      clear hPl hB2 kNB k5A
      go_loopw [9] (fun z wr => ∃ (k : Nat) (v : Value) (ps : List Pt) (h2 : Nat), Hid (z = .int .i64 (k : Int)) ∧ Hid (k ≤ 6) ∧ Hid (ps.length ≤ k) ∧ Hid (B2 ≤ h2) ∧ Hid (∀ p ∈ ps, p.ok) ∧ Hid (Blk wr P #[.int .i64 N, .slice av ds.length cv, v] 27) ∧ Hid (Blk wr w.heap.size #[.int .i64 0, .slice none 0 0, .slice none 0 0] 27) ∧ Hid (Blk wr NB #[.string ⟨#[97]⟩, .string ⟨#[98]⟩, .string ⟨#[105, 110]⟩, .string ⟨#[111, 117, 116]⟩, .string ⟨#[118, 100, 100]⟩, .string ⟨#[118, 115, 115]⟩] 9) ∧ Hid (BldD wr B hi (.slice av ds.length cv) ds) ∧ Hid (BldP wr B2 h2 v ps) ∧ Hid (Src1 W0 g sv n wr) ∧ Hid (Within g (g + 1) w wr)) (fun z _ => 6 - (intOf z).toNat)
      case atStart => exact ⟨0, .slice none 0 0, [], B2, Lib.hid rfl, Lib.hid (by omega), Lib.hid (by simp), Lib.hid (Nat.le_refl _), Lib.hid (by simp), H5A, HZA, HNB, HBLA, HPL0, HDA, HWA⟩
      case round =>
        clear HPL0 HDA HWA HBLA HZA HNB H5A
        obtain ⟨k, v, ps, h2, HK, HK6, HPK, HB2, HOK, H5, HZ, HNM, HBL, HPL, HDr, HWr⟩ := hrel
        obtain rfl := HK.out
        have hk6 := HK6.out
        have hpk := HPK.out
        have hB2 := HB2.out
        obtain ⟨pv, pc, rfl⟩ := HPL.out.sized
        have hh2 := HPL.out.1
        have k5 := H5.out
        have c5 := k5.cell
        have l5 := k5.lt
        clear HK
        by_cases hlt : k < 6
        · have i2 : (k : Int) < 6 := by omega
          have i3 : (0 : Int) ≤ (k : Int) := by omega
          obtain ⟨nm, hnm, hnz⟩ : ∃ nm : ByteArray, (#[.string ⟨#[97]⟩, .string ⟨#[98]⟩, .string ⟨#[105, 110]⟩, .string ⟨#[111, 117, 116]⟩, .string ⟨#[118, 100, 100]⟩, .string ⟨#[118, 115, 115]⟩] : Array Value)[k]? = some (.string nm) ∧ nm.size ≤ 3 := by
            rcases (by omega : k = 0 ∨ k = 1 ∨ k = 2 ∨ k = 3 ∨ k = 4 ∨ k = 5) with rfl | rfl | rfl | rfl | rfl | rfl
            all_goals exact ⟨_, rfl, by decide⟩
          rw [← HNM.out.cell] at hnm
          go_wp2_with fail
          refine (HN.out _ _ HDr.out (by omega)).mono ?_
          rintro e w5 ⟨y, rfl, hy0, hy1, hD5, ho5⟩
          have HBL5 := Lib.hid (HBL.out.only ho5 (by omega))
          have HPL5 := Lib.hid (HPL.out.only ho5 (by omega))
          have HD5 := Lib.hid hD5
          have HW5 := Lib.hid (HWr.out.on ho5.within)
          have HZ5 := Lib.hid (ho5.within.blk HZ.out (by omega))
          have HN5 := Lib.hid (ho5.within.blk HNM.out (by omega))
          have k55 := ho5.within.blk k5 (by omega)
          have hs5 : wr.heap.size ≤ w5.heap.size := ho5.within.size
          have hnm5 : w5.cell? ⟨NB, k, none⟩ = some (.string nm) := by rw [HN5.out.cell]; rw [HNM.out.cell] at hnm; exact hnm
          have lN5 := HN5.out.lt
          clear hD5 ho5 c5 l5 k5 H5 HBL HPL HDr HWr HZ HNM hnm
          have c5 := k55.cell
          have l5 := k55.lt
          by_cases hy : y = 0
          · subst hy
            go_upto_region 14 with fail
            go_region_law
              (first | (go_simp; go_at_call 32; refine (HN.out _ _ (HD5.out.by (below_of_drewN w5 1)) (by omega)).mono ?_; rintro e w6 ⟨z, rfl, hz0, hz1, hD6, ho6⟩; have HD6 := Lib.hid hD6; have hW6 := ho6.within; have k56 := hW6.blk k55.drew (by omega); have c56 := k56.cell; have l56 := k56.lt; have kn6 := hW6.blk HN5.out.drew (by omega); have hnm6 : w6.cell? ⟨NB, k, none⟩ = some (.string nm) := (by rw [kn6.cell]; rw [HN5.out.cell] at hnm5; exact hnm5); have ln6 := kn6.lt; have HPL6 := Lib.hid ((HPL5.out.by (below_of_drewN w5 1)).only ho6 (by omega)); have HW6 := Lib.hid hW6; clear hD6 hW6 ho6; dsimp only) | (refine step_pushP (by rfl) _ _ (by rfl) B2 h2 _ ps (by rfl) (HPL6.out.by blwT) w6.heap.size ⟨nm, z⟩ (by rfl) (Blk.new _ rfl) hB2 (by omega) ?_; intro a8 c8 w8 hB8 hw8; have HB8 := Lib.hid hB8; have k58 := hw8.blk (k56.past (.cells #[.string nm, .int .i64 z] 52)) (by omega); have c58 := k58.cell; have f58 := k58.free; have l58 := k58.lt; clear hB8))
            all_goals
              have hs8 := hw8.size
              simp only [World.size_alloc] at hs8
              have hs6 := HW6.out.size
              have hs6' : w5.heap.size ≤ w6.heap.size := hs6
              have HD8 := Lib.hid (Src1.within hw8 (HD6.out.by ((Below.refl _ w6).alloc (Nat.le_refl _) (.cells #[.string nm, .int .i64 z] 52))) (by omega) (by omega))
              have HZ8 := Lib.hid (hw8.blk ((HW6.out.blk HZ5.out.drew (by omega)).past (.cells #[.string nm, .int .i64 z] 52)) (by omega))
              have HN8 := Lib.hid (hw8.blk (kn6.past (.cells #[.string nm, .int .i64 z] 52)) (by omega))
              have HW8 := Lib.hid ((((HW5.out.drewN 1).on HW6.out).alloc (.cells #[.string nm, .int .i64 z] 52)).newerM hw8 (by omega))
              have HBL8 := Lib.hid (BldD.past hw8 (((HBL5.out.by (below_of_drewN w5 1)).past HW6.out (.inl (by omega))).by ((Below.refl _ w6).alloc (Nat.le_refl _) (.cells #[.string nm, .int .i64 z] 52))) (.inr (by omega)))
              have HOK8 : Hid (∀ p ∈ ps ++ [(⟨nm, z⟩ : Pt)], p.ok) := Lib.hid (by
                intro e he
                rcases List.mem_append.1 he with h | h
                · exact HOK.out e h
                · obtain rfl := List.mem_singleton.1 h
                  refine ⟨by show nm.size ≤ _; omega, ?_, ?_⟩
                  · show -9223372036854775808 ≤ z; omega
                  · show z ≤ 9223372036854775807; omega)
              go_wp2
              refine ⟨⟨k + 1, .slice a8 (ps.length + 1) c8, ps ++ [⟨nm, z⟩], w8.heap.size, Lib.hid (by first | rfl | go_num), Lib.hid (by omega), Lib.hid (by simp; omega), Lib.hid (by omega), HOK8, Lib.hid (k58.set 2 _), Lib.hid (HZ8.out.apart _ _ _ (by omega)), Lib.hid (HN8.out.apart _ _ _ (by omega)), Lib.hid (HBL8.out.past (Within.off _) (.inl (by omega))), Lib.hid (by simpa using HB8.out.past (Within.off _) (.inl (by omega))), Lib.hid (HD8.out.apart (by omega) (by omega)), Lib.hid (HW8.out.new _ _ _ (by omega))⟩, by simp [intOf] <;> omega⟩
          · go_wp2
            exact ⟨⟨k + 1, .slice pv ps.length pc, ps, h2, Lib.hid (by first | rfl | go_num), Lib.hid (by omega), Lib.hid (by omega), HB2, HOK, Lib.hid k55, HZ5, HN5, HBL5, HPL5, HD5, HW5⟩, by simp [intOf] <;> omega⟩
        · obtain rfl : k = 6 := by omega
          have i2 : ¬ ((6 : Nat) : Int) < 6 := by omega
          have kZr := HZ.out
          have cZ := kZr.cell
          have fZ := kZr.free
          have lZr := kZr.lt
          have hlw : w.heap.size ≤ B := by omega
          go_wp2
          refine bodyPost_ret (v := .agg #[.int .i64 N, .slice av ds.length cv, .slice pv ps.length pc]) (by simp [results, Tryz.results61, go_sem, *]) rfl ?_
          have q1 := (HBL.out.up (show hi ≤ B2 by omega) (by omega))
          have e1 : Hid (BldD (((wr.setCell ⟨w.heap.size, 0, none⟩ (.int .i64 N)).setCell ⟨w.heap.size, 1, none⟩ (.slice av ds.length cv)).setCell ⟨w.heap.size, 2, none⟩ (.slice pv ps.length pc)) B B2 (.slice av ds.length cv) ds) := Lib.hid (((q1.past (Within.off _) (.inl (by omega))).past (Within.off _) (.inl (by omega))).past (Within.off _) (.inl (by omega)))
          have e2 : Hid (BldP (((wr.setCell ⟨w.heap.size, 0, none⟩ (.int .i64 N)).setCell ⟨w.heap.size, 1, none⟩ (.slice av ds.length cv)).setCell ⟨w.heap.size, 2, none⟩ (.slice pv ps.length pc)) B2 h2 (.slice pv ps.length pc) ps) := Lib.hid (((HPL.out.past (Within.off _) (.inl (by omega))).past (Within.off _) (.inl (by omega))).past (Within.off _) (.inl (by omega)))
          have e3 : Hid (Src1 W0 g sv n (((wr.setCell ⟨w.heap.size, 0, none⟩ (.int .i64 N)).setCell ⟨w.heap.size, 1, none⟩ (.slice av ds.length cv)).setCell ⟨w.heap.size, 2, none⟩ (.slice pv ps.length pc))) := Lib.hid (((HDr.out.apart (by omega) (by omega)).apart (by omega) (by omega)).apart (by omega) (by omega))
          have e4 : Hid (Within g (g + 1) w (((wr.setCell ⟨w.heap.size, 0, none⟩ (.int .i64 N)).setCell ⟨w.heap.size, 1, none⟩ (.slice av ds.length cv)).setCell ⟨w.heap.size, 2, none⟩ (.slice pv ps.length pc))) := Lib.hid (((HWr.out.new _ _ _ (by omega)).new _ _ _ (by omega)).new _ _ _ (by omega))
          first
            | exact ⟨⟨N, ds, ps⟩, _, _, B, B2, h2, rfl, e1, e2, ⟨by omega, by omega, by omega, by simp; omega⟩, hNb, hds6, HPN.out, hpk, HOK.out, e3, e4⟩
            | exact ⟨⟨N, ds, ps⟩, _, _, rfl, B, B2, e1, h2, e2, ⟨by omega, by omega, by omega, by simp; omega⟩, hNb, hds6, HPN.out, hpk, HOK.out, e3, e4⟩
/- One device of a slice turned in place: a number, or its pins. -/
theorem OwnDs.setNum {w : World} {lo hi b n c : Nat} {ds : List Dv} (h : OwnDs w lo hi (.slice (some ⟨b, 0, none⟩) n c) ds) (k : Nat) (x : Dv) (hx : ds[k]? = some x) (j : Nat) (u : Int) (x' : Dv)
    (hj : (j = 0 ∧ x' = ⟨u, x.pins, x.wd, x.len⟩) ∨ (j = 2 ∧ x' = ⟨x.kind, x.pins, u, x.len⟩) ∨ (j = 3 ∧ x' = ⟨x.kind, x.pins, x.wd, u⟩)) : OwnDs (w.setCell ⟨b, k * 4 + j, none⟩ (.int .i64 u)) lo hi (.slice (some ⟨b, 0, none⟩) n c) (ds.set k x') := by
  rcases h with ⟨_, _, _, h2⟩ | ⟨g, cap, cs, f, h1, h2, h3, h4, h5, h6, h7⟩
  · rw [h2] at hx; simp at hx
  obtain ⟨⟨⟩⟩ : b = g := by injection h1 with e1; injection e1 with e1; injection e1
  injection h1 with _ e2 e3
  subst e2 e3
  have hk := (List.getElem?_eq_some_iff.1 hx).1
  refine .inr ⟨b, c, _, f, by rw [List.length_set], h2, by rw [List.length_set]; exact h3, h4, h5.set (k * 4 + j) _, fun i y hy => ?_, fun i i' hi hi' hne => h7 i i' (by simpa using hi) (by simpa using hi') hne⟩
  rw [List.getElem?_set] at hy
  by_cases e : k = i
  · subst e
    rw [if_pos rfl, if_pos hk] at hy
    injection hy with hy
    subst hy
    obtain ⟨⟨pv, ⟨c0, c1, c2, c3⟩, hR⟩, hf⟩ := h6 k x hx
    have hsz := (Array.getElem?_eq_some_iff.1 c3).1
    rcases hj with ⟨rfl, rfl⟩ | ⟨rfl, rfl⟩ | ⟨rfl, rfl⟩
    all_goals refine ⟨⟨pv, ⟨?_, ?_, ?_, ?_⟩, hR.past (Within.off _) (by omega)⟩, hf⟩
    all_goals (rw [Array.getElem?_setIfInBounds]; first | (rw [if_neg (by omega)]; first | exact c0 | exact c1 | exact c2 | exact c3) | rw [if_pos (by omega), if_pos (by omega)])
  · rw [if_neg e] at hy
    obtain ⟨⟨pv, ⟨c0, c1, c2, c3⟩, hR⟩, hf⟩ := h6 i y hy
    have hj4 : j < 4 := by omega
    refine ⟨⟨pv, ⟨?_, ?_, ?_, ?_⟩, hR.past (Within.off _) (by omega)⟩, hf⟩
    all_goals (simp only [Array.getElem?_setIfInBounds]; rw [if_neg (by omega)]; assumption)
theorem BldD.pinsAt {w : World} {lo hi b n c : Nat} {ds : List Dv} (h : BldD w lo hi (.slice (some ⟨b, 0, none⟩) n c) ds) (k : Nat) (x : Dv) (hx : ds[k]? = some x) :
    ∃ f pv, BldI w f (f + 1) pv x.pins ∧ w.cell? ⟨b, k * 4 + 1, none⟩ = some pv ∧ (lo ≤ f ∧ f < hi) ∧ f ≠ b ∧
      ∀ w' pv' zs' f2 hi2, Within f (f + 1) w w' → (f2 = f ∨ hi ≤ f2) → f2 < hi2 → hi ≤ hi2 → OwnR w' f2 (f2 + 1) pv' zs' → OwnDs (w'.setCell ⟨b, k * 4 + 1, none⟩ pv') lo hi2 (.slice (some ⟨b, 0, none⟩) n c) (ds.set k ⟨x.kind, zs', x.wd, x.len⟩) := by
  obtain ⟨hs, pvs, f, ⟨hlen, h1⟩, h2, h3, h4, h5⟩ := h
  rcases h1 with ⟨h1, hn⟩ | ⟨g, cap, cur, e1, e2, e3, e4, e5, e6, e7⟩
  · exact absurd h1 (by simp)
  obtain ⟨⟨⟩⟩ : b = g := by injection e1 with e1; injection e1 with e1; injection e1
  injection e1 with _ e8 e9
  subst e8 e9
  have hcur : ∀ (j : Nat) u, (dcells ds pvs)[j]? = some u → cur[j]? = some u := by
    intro j u hu
    rw [← e7] at hu
    have hj : j < ds.length * 4 := by
      have := (List.getElem?_eq_some_iff.1 hu).1
      rw [List.length_take] at this; omega
    rw [List.getElem?_take_of_lt hj] at hu
    simpa using hu
  have hk := (List.getElem?_eq_some_iff.1 hx).1
  obtain ⟨pv, hp⟩ : ∃ pv, pvs[k]? = some pv := ⟨pvs[k]'(by omega), List.getElem?_eq_getElem (by omega)⟩
  obtain ⟨a1, b1, c1⟩ := h4 k x pv hx hp
  obtain ⟨q0, q1, q2, q3⟩ := dcells_get ds pvs k x pv hx hp
  refine ⟨f k, pv, a1, by rw [Blk.cell e3]; exact hcur _ _ q1, b1, fun e => c1 (by rw [e]; rfl), fun w' pv' zs' f2 hi2 hW hf2 hf2' hhi hR => ?_⟩
  have hfb : f k ≠ b := fun e => c1 (by rw [e]; rfl)
  have hbl := h3 b rfl
  have hB' := (hW.blk e3 (by omega)).set (k * 4 + 1) pv'
  refine .inr ⟨b, c, _, fun i => if i = k then f2 else f i, by rw [List.length_set], ⟨hbl.1, by omega⟩, by rw [List.length_set]; exact e4, e5, hB', fun i y hy => ?_, fun i i' hi hi' hne => ?_⟩
  · rw [List.getElem?_set] at hy
    dsimp only
    by_cases e : k = i
    · subst e
      rw [if_pos rfl, if_pos hk] at hy
      injection hy with hy
      subst hy
      rw [if_pos rfl]
      have hsz := (Array.getElem?_eq_some_iff.1 (hcur _ _ q3)).1
      refine ⟨⟨pv', ⟨?_, ?_, ?_, ?_⟩, hR.past (Within.off _) (by omega)⟩, by omega, by omega, by omega⟩
      all_goals (rw [Array.getElem?_setIfInBounds]; first | (rw [if_neg (by omega)]; first | exact hcur _ _ q0 | exact hcur _ _ q2 | exact hcur _ _ q3) | rw [if_pos (by omega), if_pos (by omega)])
    · rw [if_neg e] at hy
      rw [if_neg (fun h => e h.symm)]
      have hil := (List.getElem?_eq_some_iff.1 hy).1
      obtain ⟨pv2, hp2⟩ : ∃ pv, pvs[i]? = some pv := ⟨pvs[i]'(by omega), List.getElem?_eq_getElem (by omega)⟩
      obtain ⟨a2, b2, c2⟩ := h4 i y pv2 hy hp2
      obtain ⟨r0, r1, r2, r3⟩ := dcells_get ds pvs i y pv2 hy hp2
      have hfi : f i ≠ b := fun e => c2 (by rw [e]; rfl)
      have hfk : f i ≠ f k := h5 i k (by omega) hk (fun h => e h.symm)
      have hR2 : BldI (w'.setCell ⟨b, k * 4 + 1, none⟩ pv') (f i) (f i + 1) pv2 y.pins := BldI.past (Within.off _) (BldI.past hW a2 (by omega)) (by omega)
      refine ⟨⟨pv2, ⟨?_, ?_, ?_, ?_⟩, hR2.own⟩, b2.1, by omega, hfi⟩
      all_goals (rw [Array.getElem?_setIfInBounds, if_neg (by omega)]; first | exact hcur _ _ r0 | exact hcur _ _ r1 | exact hcur _ _ r2 | exact hcur _ _ r3)
  · rw [List.length_set] at hi hi'
    obtain ⟨y, hy⟩ : ∃ y, ds[i]? = some y := ⟨ds[i], List.getElem?_eq_getElem hi⟩
    obtain ⟨y', hy'⟩ : ∃ y, ds[i']? = some y := ⟨ds[i'], List.getElem?_eq_getElem hi'⟩
    obtain ⟨pv2, hp2⟩ : ∃ pv, pvs[i]? = some pv := ⟨pvs[i]'(by omega), List.getElem?_eq_getElem (by omega)⟩
    obtain ⟨pv3, hp3⟩ : ∃ pv, pvs[i']? = some pv := ⟨pvs[i']'(by omega), List.getElem?_eq_getElem (by omega)⟩
    have g2 := (h4 i y pv2 hy hp2).2.1
    have g3 := (h4 i' y' pv3 hy' hp3).2.1
    have n1 := h5 i i' hi hi' hne
    have n2 : i ≠ k → f i ≠ f k := fun h => h5 i k hi hk h
    have n3 : i' ≠ k → f i' ≠ f k := fun h => h5 i' k hi' hk h
    dsimp only
    by_cases m1 : i = k
    · by_cases m2 : i' = k
      · omega
      · rw [if_pos m1, if_neg m2]
        have := n3 m2
        omega
    · by_cases m2 : i' = k
      · rw [if_neg m1, if_pos m2]
        have := n2 m1
        omega
      · rw [if_neg m1, if_neg m2]
        exact n1
theorem step_pushOne {ops : Array Oper} {o : Oper} {a : Act} {w : World} {K : Act → World → Prop} {Q : Exit → Act → World → Prop} {E : Prop} (hgd : o.guard = none) (s x : Operand)
    (ho : o.op = .call { callee := .builtin .append, args := #[s, x], argTypes := #[30, 30] })
    (f : Nat) (v : Value) (zs ys : List Int) (hs : a.eval s = v) (hB : BldI w f (f + 1) v zs) (nb m : Nat) (cs : Array Value) (hx : a.eval x = .slice (some ⟨nb, 0, none⟩) m m) (hys : ys.length = m) (hm : 0 < m)
    (hnb : Blk w nb cs 2) (hcs : cs.toList = icells ys) (hn : zs.length + m ≤ 8000000)
    (hK : ∀ a' c' w' f2, BldI w' f2 (f2 + 1) (.slice a' (zs.length + m) c') (zs ++ ys) → (f2 = f ∨ w.heap.size ≤ f2) → Within f (f + 1) w w' → K (a.put o.dst (.slice a' (zs.length + m) c')) w') :
    if Region.wanted o (yielded ops a.tmps) = true then Oper.wp Tryz.prog o a w K Q else E := by
  obtain ⟨i0, hi0, hz0, hz1, hz2⟩ := info_parts infoI
  obtain ⟨hsz, h1, h3⟩ := hB
  refine step_append_lies w hgd s x 30 ho f 2 i0 _ 1 8 Tryz.underlying30 hi0 hz0 hz1 hz2 rfl (by decide) v zs.length _ hs h1 ⟨nb, 0, none⟩ m m (icells ys) hx (by simp [icells, hys]) (by rw [← hcs]; exact World.news_of_block (cs := cs) hnb) ?_ hm (by unfold maxLen; omega) (by omega) (by omega) w.heap.size rfl ?_
  · intro u hu
    simp only [icells, List.mem_map] at hu
    obtain ⟨_, _, rfl⟩ := hu
    rfl
  · intro g cap w' hrow hgrow hg hgl
    have hW : Within f (f + 1) w w' := grown_within hgrow h3
    refine hK (some ⟨g, 0, none⟩) cap w' g ⟨by omega, ?_, ?_⟩ ?_ hW
    · rw [List.length_append, hys, icells_push]
      obtain ⟨r1, r2⟩ := hrow
      refine ⟨r1, ?_⟩
      rcases r2 with ⟨r2, _⟩ | ⟨g', cap', cur, e1, e2, e3⟩
      · cases r2
      · have hgg : g = g' := by have := congrArg Value.ownBlock e1; simpa [Value.ownBlock] using this
        subst hgg
        exact .inr ⟨g, cap', cur, e1, Nat.le_refl _, e3⟩
    · intro g' hg'
      have : g = g' := by injection hg'
      omega
    · rcases hg with h | h
      · have := h3 g h; omega
      · omega
theorem BldD.fr {w : World} {lo hi b n c : Nat} {ds : List Dv} (h : BldD w lo hi (.slice (some ⟨b, 0, none⟩) n c) ds) (h0 : 0 < ds.length) (o : Nat) : w.frozen? ⟨b, o, none⟩ = false := by
  rcases h.own with ⟨_, _, _, h2⟩ | ⟨g, cap, cs, f, h1, h2, h3, h4, h5, h6, h7⟩
  · rw [h2] at h0; simp at h0
  · have hg : b = g := by injection h1 with e1; injection e1 with e1; injection e1
    subst hg
    exact h5.free o
theorem Blk.differ {w : World} {g : Nat} {a b : Array Value} {T1 T2 : TypeId} (h1 : Blk w g a T1) (h2 : Blk w g b T2) : T1 = T2 := by
  have h := h1.symm.trans h2
  injection h with h
  injection h
theorem OwnR.offN {w : World} {lo hi T o : Nat} {cs : Array Value} {sv v : Value} {zs : List Int} (h : OwnR w lo hi sv zs) (hT : Blk w T cs 27) : OwnR (w.setCell ⟨T, o, none⟩ v) lo hi sv zs := by
  rcases h with h | ⟨g, cap, c2, h1, h2, h3, h4, h5, h6, h7⟩
  · exact .inl h
  · exact .inr ⟨g, cap, c2, h1, h2, h3, h4, h5, h6.apart T o v (fun e => by subst e; exact absurd (h6.differ hT) (by decide)), h7⟩
theorem OwnDs.offN {w : World} {lo hi T o : Nat} {cs : Array Value} {sv v : Value} {ds : List Dv} (h : OwnDs w lo hi sv ds) (hT : Blk w T cs 27) : OwnDs (w.setCell ⟨T, o, none⟩ v) lo hi sv ds := by
  rcases h with h | ⟨g, cap, c2, f, h1, h2, h3, h4, h5, h6, h7⟩
  · exact .inl h
  · refine .inr ⟨g, cap, c2, f, h1, h2, h3, h4, h5.apart T o v (fun e => by subst e; exact absurd (h5.differ hT) (by decide)), fun i x hx => ?_, h7⟩
    obtain ⟨⟨pv, hC, hR⟩, hf⟩ := h6 i x hx
    exact ⟨⟨pv, hC, hR.offN hT⟩, hf⟩
theorem OwnPs.offN {w : World} {lo hi T o : Nat} {cs : Array Value} {sv v : Value} {ps : List Pt} (h : OwnPs w lo hi sv ps) (hT : Blk w T cs 27) : OwnPs (w.setCell ⟨T, o, none⟩ v) lo hi sv ps := by
  rcases h with h | ⟨g, cap, c2, h1, h2, h3, h4, h5, h6⟩
  · exact .inl h
  · exact .inr ⟨g, cap, c2, h1, h2, h3, h4, h5.apart T o v (fun e => by subst e; exact absurd (h5.differ hT) (by decide)), h6⟩
theorem Within.onB (lo hi : Nat) {a w w' : World} (h : Below a.heap.size a w) (h' : Within lo hi w w') : Within lo hi a w' := (Within.ofBelowM lo hi h).on h'
theorem atWorld {P : Program} {c : Code} {Q : Exit → Act → World → Prop} {a : Act} (w : World) (h : Code.wp P c Q a w) : Code.wp P c Q a w := h
theorem BldD.blkB {w : World} {lo hi b n c : Nat} {ds : List Dv} (h : BldD w lo hi (.slice (some ⟨b, 0, none⟩) n c) ds) (h0 : 0 < ds.length) : ∃ cs, Blk w b cs 54 := by
  rcases h.own with ⟨_, _, _, h2⟩ | ⟨g, cap, cs, f, h1, h2, h3, h4, h5, h6, h7⟩
  · rw [h2] at h0; simp at h0
  · have hg : b = g := by injection h1 with e1; injection e1 with e1; injection e1
    subst hg
    exact ⟨cs, h5⟩
theorem list_pushP {ops : Array Oper} {rest : List Oper} {o : Oper} {a : Act} {w : World} {Q : Exit → Act → World → Prop} (hgd : o.guard = none) (s x : Operand)
    (ho : o.op = .call { callee := .builtin .append, args := #[s, x], argTypes := #[25, 25] })
    (lo hi : Nat) (v : Value) (ps : List Pt) (hs : a.eval s = v) (hB : BldP w lo hi v ps) (nb : Nat) (p : Pt) (hx : a.eval x = .slice (some ⟨nb, 0, none⟩) 1 1)
    (hnb : Blk w nb #[.string p.name, .int .i64 p.net] 52) (hlo : lo ≤ hi) (hn : ps.length ≤ 1000)
    (hK : ∀ a' c' w', BldP w' lo w'.heap.size (.slice a' (ps.length + 1) c') (ps ++ [p]) → Within lo hi w w' → wpList Tryz.prog ops Q rest (a.put o.dst (.slice a' (ps.length + 1) c')) w') : wpList Tryz.prog ops Q (o :: rest) a w :=
  wpList_plain hgd fun K hk => by
    have h := step_pushP (ops := ops) (K := K) (Q := Q) (E := False) hgd s x ho lo hi v ps hs hB nb p hx hnb hlo hn (fun a' c' w' h1 h2 => hk _ _ (hK a' c' w' h1 h2))
    rwa [if_pos (by simp [Region.wanted, hgd])] at h
end Go.Proofs.YtehmiekendkjmaaGreat
