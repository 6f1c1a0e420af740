/- Contracts and plain laws, part 11, for the statement's proof. -/
import Derived.Test.YtehmiekendkjmaaGreatPkMtLaw10
import Derived.RangeFuncBox
import Derived.RangeFuncLeaves
import Derived.Shelf.Abstract
import Derived.WalkKit
import Derived.OwnWalkIn
import Derived.TacticsInMore
import Derived.LoopNIn
import Derived.LoopIn
import Derived.Maps.AppendAt
import Derived.Lib.SlKeysI
import Derived.Deep.RegionHeld3
import Derived.BigRegion
namespace Go.Proofs.YtehmiekendkjmaaGreat
open Go.RowKit
set_option linter.unusedVariables false
set_option linter.unusedSimpArgs false
def dsgLs (x : Nl) (c : List Int × List Int) : List (List Int) := (List.range x.ds.length).map fun k : Nat => dsgL (dAt x.ds k) (nmOf c.2 (k : Int)) c.1
def refS (x : Nl) (c : List Int × List Int) : List Int × List Int := (rankS ((List.range c.1.length).map fun j : Nat => netL' x c (j : Int)), rankS (dsgLs x c))
theorem dsgL_pos (d : Dv) (k : Int) (cn : List Int) : 0 < (dsgL d k cn).length := by
  unfold dsgL
  rw [List.length_append]
  split <;> simp <;> omega
theorem refS_bounds {x : Nl} {c : List Int × List Int} (h : coB x c = true) : (refS x c).1.length ≤ 24 ∧ (refS x c).2.length ≤ 24 := by
  obtain ⟨h1, h2, h3, h4⟩ := coB_facts h
  simp only [refS, length_rankS, List.length_map, List.length_range, dsgLs]
  omega
/- The reference's l29Step. -/
/- The program's refine. -/
set_option maxRecDepth 100000 in
set_option maxHeartbeats 2000000 in
theorem implRefine_any (x : Nl) (c : List Int × List Int) (m : Nat) (v u : Value) (w : World) (h : NlV w v x) (hc : CoV w u c) (hm : x.nets = m) (hm24 : m ≤ 24) (hl : x.ds.length ≤ 24) (hcn : c.1.length = m) (hcd : c.2.length = x.ds.length)
    (hp3 : ∀ d ∈ x.ds, d.pins.length ≤ 3) (hshp : ∀ d ∈ x.ds, Shp d ∧ ∀ p ∈ d.pins, 0 ≤ p ∧ p < c.1.length) (hoc : ∀ net, ∀ o ∈ occs x.ds c.2 net x.ds.length, ∃ q r : Nat, q < 24 ∧ r < 3 ∧ o = [(q : Int), (r : Int)]) :
    Calls Tryz.prog 67 #[v, u] w fun e w' => ∃ v', e = .returned v' ∧ OwnPr w' w.heap.size w'.heap.size v' (refS x c) ∧ Below w.heap.size w w' := by
  have HN := Lib.hid h
  have HU := Lib.hid hc
  obtain ⟨Y, hY⟩ : ∃ Y, refS x c = Y := ⟨_, rfl⟩
  rw [hY]
  obtain ⟨NN, hNN⟩ : ∃ Z, ((List.range m).map fun j : Nat => netL' x c (j : Int)) = Z := ⟨_, rfl⟩
  obtain ⟨DD, hDD⟩ : ∃ Z, dsgLs x c = Z := ⟨_, rfl⟩
  have HY := Lib.hid (show (rankS NN, rankS DD) = Y by rw [← hY, ← hNN, ← hDD]; unfold refS; rw [hcn])
  have hNl : NN.length = m := by rw [← hNN]; simp
  have hDl : DD.length = x.ds.length := by rw [← hDD]; simp [dsgLs]
  have HNL := Lib.hid hNl
  have HDL := Lib.hid hDl
  have HNT := Lib.hid (fun k (hk : k < m) => show NN.take (k + 1) = NN.take k ++ [netL' x c (k : Int)] from take_snoc_of NN k _ (by rw [← hNN]; simp [hk]))
  have HDT := Lib.hid (fun k d (hd : x.ds[k]? = some d) => show DD.take (k + 1) = DD.take k ++ [dsgL d (nmOf c.2 (k : Int)) c.1] from take_snoc_of DD k _ (by
    obtain ⟨h1, h2⟩ := List.getElem?_eq_some_iff.1 hd
    rw [← hDD]
    simp [dsgLs, h1, h2, dAt, List.getD_eq_getElem?_getD, hd]))
  have HNP := Lib.hid (fun k : Nat => show 0 < (netL' x c (k : Int)).length by unfold netL'; rw [List.length_append]; simp; omega)
  have HDP := Lib.hid (fun (d : Dv) (k : Int) => show 0 < (dsgL d k c.1).length from dsgL_pos d k c.1)
  have HNV := Lib.hid (fun v u w h h' => implNets_any x c m v u w h h' hm hm24 hl hcn hcd (fun d hd => ⟨hp3 d hd, fun p hp => by have := (hshp d hd).2 p hp; omega⟩) hoc)
  rw [hNN] at HNV
  have HDV := Lib.hid (fun k d (hd : x.ds[k]? = some d) v u w h h' => dsgDevice_any x c k d v u w h h' hd (by have := (List.getElem?_eq_some_iff.1 hd).1; omega) (hshp d (List.mem_of_getElem? hd)).1 (hshp d (List.mem_of_getElem? hd)).2 hl (by omega))
  have HR1 := Lib.hid (fun sv w h hf => implRanks_any NN sv w h hf (by omega))
  have HR2 := Lib.hid (fun sv w h hf => implRanks_any DD sv w h hf (by omega))
  obtain ⟨a, ca, a', ca', rfl⟩ := h.sized
  obtain ⟨b, cb, b', cb', rfl⟩ := hc.sized
  clear h hc hY hNN hDD hcn hcd hp3 hshp hoc hNl hDl
  rw [hm] at HN ⊢
  clear hm
  go_enter Tryz.func67, Tryz.ntmps67
  go_wp2
  go_loopw [5, 11] (fun s i wr => ∃ (j hi : Nat), j ≤ x.ds.length ∧ i = .int .i64 j ∧ Hid (BldL wr (w.heap.size + 1 + 1 + 1) hi s (DD.take j)) ∧ w.heap.size + 1 + 1 + 1 < hi ∧ Blk wr w.heap.size #[.int .i64 (m : Int), .slice a x.ds.length ca, .slice a' x.ps.length ca'] 27 ∧ Blk wr (w.heap.size + 1) #[.slice b c.1.length cb, .slice b' c.2.length cb'] 77 ∧ Blk wr (w.heap.size + 1 + 1) #[.slice none 0 0, .slice none 0 0] 77 ∧ Below w.heap.size w wr) (fun _ i _ => x.ds.length - (intOf i).toNat)
  case atStart =>
    refine ⟨0, w.heap.size + 1 + 1 + 1 + 1, Nat.zero_le _, rfl, Lib.hid ?_, by omega, blkT, blkT, blkT, blwT⟩
    rw [List.take_zero]
    exact BldL.lit (Blk.new _ (by simp)) (Nat.le_refl _) (by omega) (by simp)
  case round =>
    obtain ⟨j, hi, hj, rfl, HB, hhi, kA, kC, kR, hb⟩ := hrel
    obtain ⟨av, cv, rfl⟩ := HB.out.sized
    have hml : (DD.take j).length = j := by rw [List.length_take, HDL.out]; omega
    rw [hml] at HB ⊢
    have HML := Lib.hid hml
    have hhs := HB.out.1
    have qA := kA.cell
    have qC := kC.cell
    have lR := kR.lt
    clear hml
    by_cases hlj : j < x.ds.length
    · obtain ⟨d, hd⟩ : ∃ d, x.ds[j]? = some d := ⟨x.ds[j], List.getElem?_eq_getElem hlj⟩
      have HDX := Lib.hid (HDT.out j d hd)
      have HDC := Lib.hid (HDV.out j d hd)
      have hdp := HDP.out d (nmOf c.2 (j : Int))
      have j1 : (0 : Int) ≤ (j : Int) := by omega
      have j2 : (j : Int) < (x.ds.length : Int) := by omega
      clear hd
      generalize dsgL d (nmOf c.2 (j : Int)) c.1 = G at *
      go_wp2_with fail
      refine (HDC.out _ _ _ (HN.out.by hb) (HU.out.by hb)).mono ?_
      rintro e w3 ⟨v3, rfl, hO3, hb3⟩
      obtain ⟨f3, ⟨f31, f32⟩, hp3⟩ := hO3.pick' hdp
      have HP3 := Lib.hid hp3
      obtain ⟨a3, c3, rfl⟩ := hO3.sl.len
      have hs3 := hb3.size
      have HB3 := Lib.hid (HB.out.by hb3)
      have kA3 := Blk.by hb3 kA
      have kC3 := Blk.by hb3 kC
      have kR3 := Blk.by hb3 kR
      have hbw := below_on hb3 hb
      clear hO3 hp3 qA qC HB
      go_wp2_with (refine list_pushL (by rfl) _ _ (by rfl) (w.heap.size + 1 + 1 + 1) hi (.slice av j cv) (DD.take j) (by rfl) (HB3.out.by blwT) w3.heap.size G _ f3 (by rfl) (Blk.new _ rfl) (OwnR.new HP3.out _) (by omega) (by omega) (by simp; omega) (by rw [HML.out]; omega) ?_; intro a5 c5 w5 hB5 hw5; have HB5 := Lib.hid hB5; rw [HML.out]; clear hB5)
      have hsz := hw5.size
      simp only [World.size_alloc] at hsz
      refine ⟨⟨j + 1, w5.heap.size, by omega, by go_num, Lib.hid ?_, by omega, hw5.blk (kA3.past _) (by omega), hw5.blk (kC3.past _) (by omega), hw5.blk (kR3.past _) (by omega), hw5.below (below_al hbw _) (by omega)⟩, by simp [intOf]; omega⟩
      rw [HDX.out]
      have := HB5.out
      rw [HML.out] at this
      exact this
    · obtain rfl : j = x.ds.length := by omega
      have hLL := HB.out.ll
      rw [List.take_of_length_le (by rw [HDL.out]; exact Nat.le_refl _)] at hLL
      have HLL := Lib.hid hLL
      clear HB hLL
      go_wp2_with fail
      refine (HNV.out _ _ _ (HN.out.by hb) (HU.out.by hb)).mono ?_
      rintro e w5 ⟨v5, rfl, hB5, hb5⟩
      have HLN := Lib.hid hB5.ll
      have hs5 := hb5.size
      obtain ⟨a5, c5, rfl⟩ := hB5.sized
      clear hB5
      go_wp2_with fail
      refine (HR1.out _ _ HLN.out.1 (HLN.out.2.imp id (fun ⟨b, c, e⟩ => ⟨b, _, c, e⟩))).mono ?_
      rintro e w6 ⟨v6, rfl, hO6, hb6⟩
      have HO6 := Lib.hid hO6
      obtain ⟨a6, c6, rfl⟩ := hO6.sl.len
      rw [length_rankS] at HO6 ⊢
      have hs6 := hb6.size
      have hb56 := below_on hb6 hb5
      clear hO6
      go_wp2_with fail
      refine (HR2.out _ _ (HLL.out.1.by hb56) (HLL.out.2.imp id (fun ⟨b, c, e⟩ => ⟨b, _, c, e⟩))).mono ?_
      rintro e w7 ⟨v7, rfl, hO7, hb7⟩
      have HO7 := Lib.hid hO7
      obtain ⟨a7, c7, rfl⟩ := hO7.sl.len
      rw [length_rankS] at HO7 ⊢
      have hs7 := hb7.size
      have kR7 := Blk.by hb7 (Blk.by hb56 kR)
      have qR := kR7.cell
      have fR := kR7.free
      have lR7 := kR7.lt
      have hbw7 := below_on hb7 (below_on hb56 hb)
      clear hO7 qA qC
      go_wp2
      refine bodyPost_ret (v := .agg #[.slice a6 NN.length c6, .slice a7 DD.length c7]) (by simp [results, Tryz.results67, go_sem, *]) rfl ⟨_, rfl, ?_, blwT⟩
      have hy := HY.out
      rw [← hy]
      refine ⟨_, _, w5.heap.size, w6.heap.size, w6.heap.size, w7.heap.size, rfl, ?_, ?_, ⟨by omega, by simp; omega⟩, ⟨by omega, by simp; try omega⟩, .inl (Nat.le_refl _)⟩
      · exact OwnR.past (Within.off _) (OwnR.past (Within.off _) (OwnR.by hb7 HO6.out) (by omega)) (by omega)
      · exact OwnR.past (Within.off _) (OwnR.past (Within.off _) HO7.out (by omega)) (by omega)
/- RefineStep: the program's and the reference's. -/
open Go.RowKit Go.Shelf
attribute [local go_sem] Oper.semAt_some
def cameTo (zs : List Int) (k : Nat) : List Int := (List.range k).map fun j => zs[j]?.getD 0
theorem cameTo_succ (zs : List Int) (k : Nat) : cameTo zs (k + 1) = cameTo zs k ++ [zs[k]?.getD 0] := by simp [cameTo, List.range_succ]
theorem cameTo_length (zs : List Int) (k : Nat) : (cameTo zs k).length = k := by simp [cameTo]
theorem cameTo_all (zs : List Int) : cameTo zs zs.length = zs := by
  apply List.ext_getElem
  · simp [cameTo]
  · intro i h1 h2
    simp [cameTo, h2]
theorem cameTo_take (zs : List Int) {k : Nat} (hk : k ≤ zs.length) : cameTo zs k = zs.take k := by
  apply List.ext_getElem
  · simp [cameTo, hk]
  · intro i h1 h2
    have : i < zs.length := by simp [cameTo] at h1; omega
    simp [cameTo, this]
set_option maxRecDepth 100000 in
set_option maxHeartbeats 2000000 in
theorem values1_in (F : Fence) (n : Nat) (h7 : F.fn 77) (hro : F.round = none) (hn : 1 ≤ n) (l Bs n₀ b off len cap : Nat) (zs : List Int) (hreach : len * 8 ≤ 140737488351232) (hb : b < n₀) (J Jx : List Int → World → Prop)
    (hY : ∀ pre x W, J pre W → pre.length < len → YieldAt F (n - 1) Tryz.prog l #[.int .i64 x] W fun e W' =>
      (e = .returned (.bool true) ∧ J (pre ++ [x]) W' ∧ Below n₀ W W') ∨ (e = .returned (.bool false) ∧ Jx (pre ++ [x]) W'))
    (W : World) (hBs : W.cell? ⟨Bs, 0, none⟩ = some (.slice (some ⟨b, off, none⟩) len cap)) (hc : ∀ j, j < len → W.cell? ⟨b, off + j, none⟩ = some (.int .i64 (zs[j]?.getD 0))) (h0 : J [] W) :
    CallsIn F n Tryz.prog 77 #[.func (.yield l) #[] #[], .pointer (some ⟨Bs, 0, none⟩)] W fun e W' => (∃ v, e = .returned v) ∧
      ((∃ ys, ys = cameTo zs len ∧ J ys W') ∨ (∃ pre, (∃ k, k ≤ len ∧ pre = cameTo zs k) ∧ Jx pre W')) := by
  refine callsIn_of_wp Tryz.func77 rfl h7 ?_ hro
  simp only [Tryz.ntmps77, List.size_toArray, List.length_cons, List.length_nil, Nat.reduceAdd, Nat.reduceSub, Array.replicate_succ, Array.replicate_zero, List.push_toArray, List.append_toArray, List.nil_append, List.cons_append]
  gi_wp2
  gi_loopw [7] (fun i wr => ∃ k : Nat, k ≤ len ∧ i = .int .i64 k ∧ J (cameTo zs k) wr ∧ Below n₀ W wr)
    (fun i _ => len - (intOf i).toNat)
  case atStart => exact ⟨0, Nat.zero_le _, rfl, h0, Below.refl _ _⟩
  case round =>
    obtain ⟨k, hk, rfl, hJs, hnx⟩ := hrel
    have hcx : k < len → wr.cell? ⟨b, off + k, none⟩ = some (.int .i64 (zs[k]?.getD 0)) := fun h => (hnx.cell (p := ⟨b, off + k, none⟩) hb).trans (hc k h)
    by_cases hlt : k < len
    · obtain ⟨fn, tmps, assign, body, hy, hR⟩ := hY _ (zs[k]?.getD 0) wr hJs (by rw [cameTo_length]; exact hlt)
      have hcx' := hcx hlt
      gi_wp2
      refine hR.mono ?_
      rintro e W3 (⟨rfl, hJ3, hk3⟩ | ⟨rfl, hJx3⟩)
      · gi_wp2
        go_roundw
        case rel => exact ⟨k + 1, by omega, by simp, by rw [cameTo_succ]; exact hJ3, hnx.trans hk3⟩
        case measure => simp [intOf]; omega
      · gi_wp2
        refine bodyPost_ret (results_none rfl _ _ _) rfl ?_
        exact ⟨⟨_, rfl⟩, .inr ⟨_, ⟨k + 1, by omega, (cameTo_succ _ _).symm⟩, hJx3⟩⟩
    · obtain rfl : k = len := by omega
      gi_wp2
      go_end0
      exact ⟨⟨_, rfl⟩, .inl ⟨_, rfl, hJs⟩⟩
set_option maxRecDepth 100000 in
set_option maxHeartbeats 1000000 in
theorem values1_nil_in (F : Fence) (n : Nat) (h7 : F.fn 77) (hro : F.round = none) (l Bs : Nat) (a : Option Addr) (c : Nat) (J : List Int → World → Prop) (W : World) (hBs : W.cell? ⟨Bs, 0, none⟩ = some (.slice a 0 c)) (h0 : J [] W) :
    CallsIn F n Tryz.prog 77 #[.func (.yield l) #[] #[], .pointer (some ⟨Bs, 0, none⟩)] W fun e W' => (∃ v, e = .returned v) ∧ J [] W' := by
  refine callsIn_of_wp Tryz.func77 rfl h7 ?_ hro
  simp only [Tryz.ntmps77, List.size_toArray, List.length_cons, List.length_nil, Nat.reduceAdd, Nat.reduceSub, Array.replicate_succ, Array.replicate_zero, List.push_toArray, List.append_toArray, List.nil_append, List.cons_append]
  gi_wp2
  gi_loopw [7] (fun i wr => i = .int .i64 0 ∧ J [] wr) (fun _ _ => 0)
  case atStart => exact ⟨rfl, h0⟩
  case round =>
    obtain ⟨rfl, hJs⟩ := hrel
    gi_wp2
    go_end0
    exact ⟨⟨_, rfl⟩, hJs⟩
set_option maxHeartbeats 1000000 in
theorem values_any (a : Option Addr) (len cap : Nat) (w : World) :
    Calls Tryz.prog 46 #[.slice a len cap] w fun e w' => e = .returned (.func (.func 77) #[] #[.pointer (some ⟨w.heap.size, 0, none⟩)]) ∧ w' = w.alloc (.cells #[.slice a len cap] 30) := by
  go_enter Tryz.func46, Tryz.ntmps46
  go_wp2
  go_ret
  exact ⟨rfl, rfl⟩
def IntsAt (n₀ : Nat) (W : World) (sv : Value) (zs : List Int) : Prop :=
  (∃ a c, sv = .slice a 0 c ∧ zs = []) ∨ ∃ b off cap, sv = .slice (some ⟨b, off, none⟩) zs.length cap ∧ b < n₀ ∧ ∀ j, j < zs.length → W.cell? ⟨b, off + j, none⟩ = some (.int .i64 (zs[j]?.getD 0))
theorem IntsAt.below {n₀ : Nat} {A B : World} (h : Below n₀ A B) {sv : Value} {zs : List Int} : IntsAt n₀ A sv zs → IntsAt n₀ B sv zs
  | .inl e => .inl e
  | .inr ⟨b, off, cap, e, hb, hc⟩ => .inr ⟨b, off, cap, e, hb, fun j hj => (h.cell (p := ⟨b, off + j, none⟩) hb).trans (hc j hj)⟩
theorem IntSl.at {w : World} {sv : Value} {zs : List Int} (h : IntSl w sv zs) : IntsAt w.heap.size w sv zs := by
  rcases h with ⟨a, c, rfl, rfl⟩ | ⟨b, off, cap, rfl, h2, h3, h4⟩
  · exact .inl ⟨a, c, rfl, rfl⟩
  · by_cases h0 : zs = []
    · subst h0; exact .inl ⟨_, _, rfl, rfl⟩
    · have hl : 0 < zs.length := List.length_pos_iff.2 h0
      have c0 := h4 0 zs[0] (List.getElem?_eq_getElem hl)
      refine .inr ⟨b, off, cap, rfl, ?_, fun j hj => ?_⟩
      · rcases Nat.lt_or_ge b w.heap.size with h' | h'
        · exact h'
        · simp [World.cell?, Array.getElem?_eq_none h'] at c0
      · have := h4 j zs[j] (List.getElem?_eq_getElem hj)
        rw [this]; simp [hj]
theorem values_stops (F : Fence) (n : Nat) (h7 : F.fn 77) (hro : F.round = none) (hn : 1 ≤ n) (Bs n₀ : Nat) (sv : Value) (zs : List Int) (hreach : zs.length * 8 ≤ 140737488351232) (w : World) (hBs : Bs < w.heap.size) (hn₀ : n₀ ≤ w.heap.size)
    (hc : w.cell? ⟨Bs, 0, none⟩ = some sv) (hI : IntsAt n₀ w sv zs) :
    SeqStopsK F n Tryz.prog 77 #[.pointer (some ⟨Bs, 0, none⟩)] (fun x : Int => #[Value.int .i64 x]) (Below n₀) (fun ys => ys = zs) (fun pre => pre <+: zs) zs.length w := fun l J Jx W hW _ _ hY h0 => by
  have hc' := (hW.cell (p := ⟨Bs, 0, none⟩) hBs).trans hc
  rcases hI.below (hW.mono hn₀) with ⟨a, c, rfl, rfl⟩ | ⟨b, off, cap, rfl, hb, hcs⟩
  · exact (values1_nil_in F n h7 hro l Bs a c J W hc' h0).mono fun e W' ⟨he, hj⟩ => ⟨he, .inl ⟨_, rfl, hj⟩⟩
  · refine (values1_in F n h7 hro hn l Bs n₀ b off zs.length cap zs hreach hb J Jx hY W hc' hcs h0).mono ?_
    rintro e W' ⟨he, ⟨ys, rfl, hj⟩ | ⟨pre, ⟨k, hk, rfl⟩, hj⟩⟩
    · exact ⟨he, .inl ⟨_, cameTo_all zs, hj⟩⟩
    · exact ⟨he, .inr ⟨_, by rw [cameTo_take zs hk]; exact List.take_prefix _ _, hj⟩⟩
set_option maxRecDepth 100000 in
set_option maxHeartbeats 2000000 in
theorem appendSeq_any (Bs : Nat) (sv : Value) (zs : List Int) (hlen : zs.length ≤ 1048576) (w : World) (hBs : Bs < w.heap.size) (hc : w.cell? ⟨Bs, 0, none⟩ = some sv) (hI : IntsAt w.heap.size w sv zs) :
    Calls Tryz.prog 99 #[.slice none 0 0, .func (.func 77) #[] #[.pointer (some ⟨Bs, 0, none⟩)]] w fun e W' => ∃ v, e = .returned v ∧ W'.ownsRow w.heap.size 2 1 v zs.length (zs.map (Value.int .i64)) ∧ (v = .slice none 0 0 ↔ zs = []) ∧ Below w.heap.size w W' := by
  refine (callsIn_wide (n := 4)).1 ?_
  have h1 : 1 ≤ 4 := by omega
  have hro : Fence.wide.round = none := rfl
  obtain ⟨i0, hi, hz0, hz1, hz2⟩ := info_parts infoI
  refine callsIn_of_wp_marks Tryz.func99 rfl trivial ?_ hro
  simp only [Tryz.ntmps99, List.size_toArray, List.length_cons, List.length_nil, Nat.reduceAdd, Nat.reduceSub, Array.replicate_succ, Array.replicate_zero, List.push_toArray, List.append_toArray, List.nil_append, List.cons_append]
  gi_wp2
  have bO := Boxed.new w 30 (.slice none 0 0)
  have hB0 : Below w.heap.size w (w.alloc (.cells #[.slice none 0 0] 30)) := (Below.refl _ w).alloc (Nat.le_refl _) _
  have hc0 : (w.alloc (.cells #[.slice none 0 0] 30)).cell? ⟨Bs, 0, none⟩ = some sv := (hB0.cell (p := ⟨Bs, 0, none⟩) hBs).trans hc
  refine wpIn_rangeFunc_ownG hro h1 (gf := 77) (lb := #[.pointer (some ⟨Bs, 0, none⟩)]) rfl trivial (enters_of Tryz.func77 (by kernel_rfl) rfl)
    (values_stops Fence.wide 3 trivial hro (by omega) Bs w.heap.size sv zs (by omega) _ (by simp; omega) (by simp) hc0 (hI.below hB0)) belowK_t (belowK_b (by simp)) (Below.refl _ _) (fun _ => rfl)
    (fun pre W => (∃ v, Boxed W w.heap.size 30 v ∧ W.ownsRow w.heap.size 2 1 v pre.length (pre.map (Value.int .i64)) ∧ (v = .slice none 0 0 ↔ pre = [])) ∧ Below w.heap.size w W)
    (fun _ _ _ => False)
    (OwnFrom.and (Own.from (holdsRow_own w.heap.size w.heap.size 30 2 1 (fun pre : List Int => pre.length) (fun pre => pre.map (Value.int .i64)) (fun pre v => v = .slice none 0 0 ↔ pre = [])) _) (ownFrom_below (Nat.le_refl _) (by simp)))
    (fun _ _ _ _ _ hs _ _ => hs)
    ⟨⟨_, bO, World.ownsRow_nil _ _ _ _, by simp⟩, hB0⟩
    (fun x => { tmps := #[.slice none 0 0, .func (.func 77) #[] #[.pointer (some ⟨Bs, 0, none⟩)], .pointer (some ⟨w.heap.size, 0, none⟩), undef, .slice none 0 0, .int .i64 x, .func (.func 77) #[] #[.pointer (some ⟨Bs, 0, none⟩)], .int .i64 x, undef, undef, undef, undef, undef], defers := [] }) ?assign ?body ?done ?stop
  case assign =>
    intro l x W K hK
    gi_wp2
    exact hK
  case body =>
    rintro l pre x W ⟨⟨v, hv, hrow, hnil⟩, hB⟩ hlt
    have hc := hv.cell
    gi_wp2_with (gi_at_builtin; refine wpListIn_append_own _ rfl _ _ 30 rfl w.heap.size 2 i0 (.int .i64 0) 1 8 Tryz.underlying30 hi hz0 hz1 hz2 rfl (by decide) _ _ _ rfl (hrow.alloc _) ⟨W.heap.size, 0, none⟩ 1 1 [.int .i64 x] rfl rfl (cell_one_new _ _ _) (by simp [Value.oneCell']) (by unfold maxLen; omega) (by omega) (by have := hB.size; simp; omega) ?_; intro v' w1 hown' hgrow _; obtain ⟨g', cap', rfl⟩ := ownsRow_succ hown'; obtain ⟨hv1, hv2, hr2, hk2, hb2⟩ := hv.appended (by decide) hrow hB.size (Nat.le_refl _) hown' hgrow; have hc1 := hv1.cell; have hf1 := hv1.frozen)
    exact ⟨hk2.from _, hb2, ⟨_, hv2, by simpa using hr2, by simp⟩, hB.trans hb2⟩
  case done =>
    rintro D ys W hD rfl ⟨⟨v, hv, hrow, hnil⟩, hB⟩ hK
    have hc := hv.cell
    gi_wp2
    refine ⟨by simp, .inl ⟨_, _, rfl, run_takeDeferred hK, ?_⟩⟩
    exact ⟨_, results_tmp rfl _ _ _, v, rfl, ownsRow_putObj hrow _ hK rfl, hnil, hB.trans (belowK_b (w := w) (Nat.le_refl _) W D _ _ (by simp at hD; omega) hK rfl rfl)⟩
  case stop =>
    rintro D c pre W _ _ h _
    exact h.elim
set_option maxHeartbeats 1000000 in
theorem collect_any (Bs : Nat) (sv : Value) (zs : List Int) (hlen : zs.length ≤ 1048576) (w : World) (hBs : Bs < w.heap.size) (hc : w.cell? ⟨Bs, 0, none⟩ = some sv) (hI : IntsAt w.heap.size w sv zs) :
    Calls Tryz.prog 75 #[.func (.func 77) #[] #[.pointer (some ⟨Bs, 0, none⟩)]] w fun e W' => ∃ v, e = .returned v ∧ W'.ownsRow w.heap.size 2 1 v zs.length (zs.map (Value.int .i64)) ∧ (v = .slice none 0 0 ↔ zs = []) ∧ Below w.heap.size w W' := by
  have HA := Lib.hid (appendSeq_any Bs sv zs hlen w hBs hc hI)
  clear hBs hc hI
  go_enter Tryz.func75, Tryz.ntmps75
  go_wp2_with fail
  refine HA.out.mono ?_
  rintro e W ⟨v, rfl, h1, h2, h3⟩
  have H := Lib.hid (And.intro h1 (And.intro h2 h3))
  clear h1 h2 h3
  go_wp2
  go_ret
  exact ⟨v, rfl, H.out⟩
/- slices.Sorted(slices.Values(list)), and whether a list is a permutation of 0 .. n-1: the program's way and the reference's. -/
open Go.RowKit Go.Sort
set_option maxHeartbeats 2000000 in
theorem sorted_any (Bs : Nat) (sv : Value) (zs : List Int) (hlen : zs.length ≤ 1048576) (w : World) (hBs : Bs < w.heap.size) (hc : w.cell? ⟨Bs, 0, none⟩ = some sv) (hI : IntsAt w.heap.size w sv zs) :
    Calls Tryz.prog 45 #[.func (.func 77) #[] #[.pointer (some ⟨Bs, 0, none⟩)]] w fun e W' => ∃ v, e = .returned v ∧ BldI W' w.heap.size W'.heap.size v (srt zs) ∧ Below w.heap.size w W' := by
  have HA := Lib.hid (collect_any Bs sv zs hlen w hBs hc hI)
  have HS := Lib.hid (fun (blk off cap : Nat) (w : World) (hH : Holds (Value.int .i64) w blk off zs.toArray) (hblk : blk < w.heap.size) => Tryz.slices_Sort_int blk off cap zs w hH hblk (by omega))
  have HS0 := Lib.hid (fun (p : Option Addr) (cap : Nat) (w : World) => Tryz.slices_Sort_int_none p cap w)
  have hls := length_srt zs
  have HLS := Lib.hid hls
  clear hBs hc hI hls
  go_enter Tryz.func45, Tryz.ntmps45
  go_wp2_with fail
  refine HA.out.mono ?_
  rintro e W ⟨v, rfl, hrow, hnil, hb⟩
  rcases hrow.2 with ⟨rfl, hz⟩ | ⟨gb, cap, cur, rfl, hbase, hgb, r1, r2, r3, r4⟩
  · have hss : zs = [] := List.eq_nil_of_length_eq_zero hz
    subst hss
    have H := Lib.hid (And.intro hrow hb)
    clear hrow hb hnil hz
    go_wp2_with fail
    refine (HS0.out _ _ _).mono ?_
    rintro e w' ⟨rfl, rfl⟩
    go_wp2
    go_ret
    obtain ⟨hrow, hb⟩ := H.out
    exact ⟨_, rfl, ⟨Nat.le_refl _, by simpa [icells, srt] using hrow, by intro g h; cases h⟩, hb⟩
  · have hH : Holds (Value.int .i64) W gb 0 zs.toArray := holds_of_block_i hgb (by simpa using r4)
    have hgl : gb < W.heap.size := (Array.getElem?_eq_some_iff.1 hgb).1
    have cS := Lib.hid (HS.out gb 0 cap W hH hgl)
    have H := Lib.hid (And.intro hrow (And.intro hb (And.intro hgb (And.intro r3 r4))))
    have HN := Lib.hid (And.intro hbase (And.intro r1 r2))
    clear hrow hb hgb r3 r4 hnil hH hbase r1 r2
    go_wp2_with fail
    refine cS.out.mono ?_
    rintro e w' ⟨rfl, nn, os, rfl⟩
    obtain ⟨hrow, hb, hgb, r3, r4⟩ := H.out
    obtain ⟨hbase, r1, r2⟩ := HN.out
    have hR : (grow (putRow (Value.int .i64) (Sort.ahead W nn) gb 0 ((zs.mergeSort fun x y => decide (x ≤ y)).toArray)) os).ownsRow w.heap.size 2 1 (.slice (some ⟨gb, 0, none⟩) zs.length cap) zs.length ((srt zs).map (Value.int .i64)) := ownsRow_sorted_i (n := nn) (os := os) (ts := srt zs) HLS.out hbase hgb r1 r2 r3
    have hB : Below w.heap.size w (grow (putRow (Value.int .i64) (Sort.ahead W nn) gb 0 ((zs.mergeSort fun x y => decide (x ≤ y)).toArray)) os) := hb.grown (grownBy_sorted_i (n := nn) (os := os) (srt zs).toArray) hb.size (fun j hj => by cases hj; exact hbase)
    have HR := Lib.hid (And.intro hR hB)
    generalize hW : grow (putRow (Value.int .i64) (Sort.ahead W nn) gb 0 ((zs.mergeSort fun x y => decide (x ≤ y)).toArray)) os = W2 at *
    clear hrow hb hgb r3 r4 hbase r1 r2 hR hB hW
    go_wp2
    go_ret
    obtain ⟨hR, hB⟩ := HR.out
    refine ⟨_, rfl, ⟨Nat.le_refl _, ?_, fun g hg => hR.lt g hg⟩, hB⟩
    rw [HLS.out]
    exact hR
set_option maxRecDepth 100000 in
set_option maxHeartbeats 2000000 in
theorem implOrder_any (sv : Value) (zs : List Int) (n : Int) (w : World) (h : IntSl w sv zs) (hl : zs.length ≤ 1048576) :
    Calls Tryz.prog 19 #[sv, .int .i64 n] w fun e w' => e = .returned (.bool (permB zs n)) ∧ Below w.heap.size w w' := by
  have H := Lib.hid h
  have HNO := Lib.hid (fun k v hk hne => permB_srt_no (zs := zs) (n := n) (k := k) (v := v) hk hne)
  have HALL := Lib.hid (permB_srt_all (zs := zs) (n := n))
  have HLS := Lib.hid (length_srt zs)
  have HSO := Lib.hid (fun Bs sv w h1 h2 h3 => sorted_any Bs sv zs hl w h1 h2 h3)
  obtain ⟨a, c, rfl⟩ := h.len
  generalize permB zs n = r at *
  clear h
  go_enter Tryz.func19, Tryz.ntmps19
  go_wp2_with (first | (go_at_call 46; refine (values_any _ _ _ _).mono ?_; rintro e w' ⟨rfl, rfl⟩) | (go_at_call 45; refine (HSO.out w.heap.size (.slice a zs.length c) _ (by simp) ((Blk.new (cs := #[.slice a zs.length c]) (T := 30) w.heap.size rfl : Blk (w.alloc _) w.heap.size _ _).cell 0) ((H.out.by ((Below.refl _ w).alloc (Nat.le_refl _) _)).at)).mono ?_; rintro e w1 ⟨v, rfl, hB, hb⟩; have hI := hB.own.sl; have HI := Lib.hid hI; obtain ⟨a1, c1, rfl⟩ := hI.len; rw [HLS.out]; have HB := Lib.hid hb; clear hB hI hb))
  go_loop [13] (fun i => ∃ k : Nat, k ≤ zs.length ∧ i = .int .i64 k ∧ Hid (∀ (j : Nat) v, j < k → (srt zs)[j]? = some v → v = j)) (fun i => zs.length - (intOf i).toNat)
  case atStart => exact ⟨0, Nat.zero_le _, rfl, Lib.hid (by intro j v hj; omega)⟩
  case round =>
    obtain ⟨k, hk, rfl, HK⟩ := hrel
    have hls := HLS.out
    by_cases hlt : k < zs.length
    · obtain ⟨x, hx⟩ : ∃ x, (srt zs)[k]? = some x := ⟨(srt zs)[k]'(by omega), List.getElem?_eq_getElem (by omega)⟩
      rcases HI.out with ⟨_, _, _, h2⟩ | ⟨b, off, cap, he, h2, h3, h4⟩
      · rw [h2] at hls; simp at hls; omega
      obtain ⟨rfl, rfl⟩ : a1 = some ⟨b, off, none⟩ ∧ c1 = cap := by simpa [hls] using he
      have c1' := h4 k x hx
      have HX := Lib.hid hx
      have i1 : (0 : Int) ≤ (k : Int) := by omega
      have i2 : (k : Int) < (zs.length : Int) := by omega
      clear h4 hx he h2 h3 hls
      by_cases hxk : x = (k : Int)
      · have hd : decide (x = (k : Int)) = true := decide_eq_true hxk
        subst hxk
        go_wp2
        go_round
        case rel =>
          refine ⟨k + 1, by omega, by go_num, Lib.hid (fun j v hj hv => ?_)⟩
          by_cases e : j = k
          · subst e
            have := HX.out
            rw [hv] at this
            cases this; rfl
          · exact HK.out j v (by omega) hv
        case measure => simp [intOf]; omega
      · go_wp2
        go_ret
        exact ⟨ret_bool (HNO.out k x HX.out hxk).symm, below_on HB.out ((Below.refl _ w).alloc (Nat.le_refl _) _)⟩
    · obtain rfl : k = zs.length := by omega
      have HR : r = decide ((zs.length : Int) = n) := HALL.out (fun j v hv => HK.out j v (by have := (List.getElem?_eq_some_iff.1 hv).1; omega) hv)
      have HR' := Lib.hid HR
      clear HR hls
      go_wp2
      go_ret
      exact ⟨ret_bool HR'.out.symm, below_on HB.out ((Below.refl _ w).alloc (Nat.le_refl _) _)⟩
def fstTo (zs : List Int) : Nat → List Int
  | 0 => []
  | k + 1 => match zs[k]? with
    | none => fstTo zs k
    | some z => if z ∈ zs.take k then fstTo zs k else fstTo zs k ++ [z]
def difI (zs : List Int) : Nat := (fstTo zs zs.length).length
theorem fstTo_old {zs : List Int} {k : Nat} {z : Int} (h : zs[k]? = some z) (hm : z ∈ zs.take k) : fstTo zs (k + 1) = fstTo zs k := by
  show (match zs[k]? with | none => _ | some z => _) = _
  rw [h]
  simp only [if_pos hm]
theorem fstTo_new {zs : List Int} {k : Nat} {z : Int} (h : zs[k]? = some z) (hm : ¬ z ∈ zs.take k) : fstTo zs (k + 1) = fstTo zs k ++ [z] := by
  show (match zs[k]? with | none => _ | some z => _) = _
  rw [h]
  simp only [if_neg hm]
theorem mem_fstTo {zs : List Int} {x : Int} : ∀ k, k ≤ zs.length → (x ∈ fstTo zs k ↔ x ∈ zs.take k)
  | 0, _ => by simp [fstTo]
  | k + 1, hk => by
    obtain ⟨z, hz⟩ : ∃ z, zs[k]? = some z := ⟨zs[k], List.getElem?_eq_getElem (by omega)⟩
    have ih := mem_fstTo (zs := zs) (x := x) k (by omega)
    rw [take_snoc_of zs k z hz, List.mem_append, List.mem_singleton]
    by_cases hm : z ∈ zs.take k
    · rw [fstTo_old hz hm, ih]
      exact ⟨.inl, fun h => h.elim id (fun e => e ▸ hm)⟩
    · rw [fstTo_new hz hm, List.mem_append, List.mem_singleton, ih]
theorem nodup_fstTo {zs : List Int} : ∀ k, k ≤ zs.length → (fstTo zs k).Nodup
  | 0, _ => by simp [fstTo]
  | k + 1, hk => by
    obtain ⟨z, hz⟩ : ∃ z, zs[k]? = some z := ⟨zs[k], List.getElem?_eq_getElem (by omega)⟩
    have ih := nodup_fstTo (zs := zs) k (by omega)
    by_cases hm : z ∈ zs.take k
    · rw [fstTo_old hz hm]; exact ih
    · rw [fstTo_new hz hm, List.nodup_append]
      refine ⟨ih, by simp, fun a ha b hb => ?_⟩
      simp at hb
      subst hb
      intro e
      subst e
      exact hm ((mem_fstTo k (by omega)).1 ha)
theorem length_fstTo (zs : List Int) : ∀ k, (fstTo zs k).length ≤ k
  | 0 => by simp [fstTo]
  | k + 1 => by
    have ih := length_fstTo zs k
    show (match zs[k]? with | none => _ | some z => _ : List Int).length ≤ _
    split
    · omega
    · split
      · omega
      · simp; omega
theorem difI_le (zs : List Int) : difI zs ≤ zs.length := length_fstTo zs _
theorem ddpA_lt (p : Int) (l : List Int) (h : (p :: l).Pairwise (fun a b => a ≤ b)) : (p :: ddpA p l).Pairwise (fun a b => a < b) := by
  induction l generalizing p with
  | nil => simp [ddpA]
  | cons b l ih =>
    rw [List.pairwise_cons] at h
    have hb := ih b h.2
    unfold ddpA
    by_cases e : b = p
    · subst e; rw [if_pos rfl]; exact hb
    · rw [if_neg e, List.pairwise_cons]
      refine ⟨fun a ha => ?_, hb⟩
      have hpb : p ≤ b := h.1 b (by simp)
      rcases List.mem_cons.1 ha with rfl | ha
      · omega
      · have := (List.pairwise_cons.1 hb).1 a ha
        omega
theorem ddp_lt {l : List Int} (h : l.Pairwise (fun a b => a ≤ b)) : (ddp l).Pairwise (fun a b => a < b) := by
  cases l with
  | nil => simp [ddp]
  | cons a l => exact ddpA_lt a l h
theorem srt_le (zs : List Int) : (srt zs).Pairwise (fun a b => a ≤ b) := (srt_pairwise zs).imp (fun h => by simpa using h)
theorem difI_srt (zs : List Int) : (ddp (srt zs)).length = difI zs := by
  refine (perm_of_mem _ _ ?_ (nodup_fstTo zs.length (Nat.le_refl _)) (fun z => ?_)).length_eq
  · exact (ddp_lt (srt_le zs)).imp (fun h => by omega)
  · rw [mem_ddp, mem_fstTo _ (Nat.le_refl _), List.take_length]
    exact (srt_perm zs).mem_iff
/- How many different numbers: the reference's and the program's. -/
set_option maxRecDepth 100000 in
set_option maxHeartbeats 1000000 in
theorem compactN_any (c : Nat) (w : World) :
    Calls Tryz.prog 111 #[.slice none 0 c] w fun e w' => e = .returned (.slice none 0 c) ∧ w = w' := by
  go_enter Tryz.func111, Tryz.ntmps111
  go_wp2
  go_ret
  exact ⟨rfl, rfl⟩
theorem compactB_any (lo hi : Nat) (v : Value) (ws : List Int) (w : World) (h : BldI w lo hi v ws) (hn : ws.length ≤ 1000000) :
    Calls Tryz.prog 111 #[v] w fun e w' => ∃ v', e = .returned v' ∧ IntSl w' v' (ddp ws) ∧ Within lo hi w w' := by
  obtain ⟨hs, ⟨hlen, r⟩, h3⟩ := h
  rcases r with ⟨rfl, r2⟩ | ⟨g, cap, cur, rfl, e2, e3, e4, e5, e6, e7⟩
  · have hw : ws = [] := List.eq_nil_of_length_eq_zero r2
    subst hw
    refine (compactN_any 0 w).mono ?_
    rintro e w' ⟨rfl, rfl⟩
    exact ⟨_, rfl, .inl ⟨_, _, rfl, rfl⟩, Within.refl _ _ _⟩
  · have hg := h3 g rfl
    simp only [Nat.mul_one] at e6 e7
    refine (compactI_any g cap ws w cur e3 (fun i z hz => ?_) hn e4 e5).mono ?_
    · have hi : i < ws.length := (List.getElem?_eq_some_iff.1 hz).1
      have : (icells ws)[i]? = some (.int .i64 z) := by simp [icells, hz]
      rw [← e7, List.getElem?_take_of_lt hi] at this
      simpa using this
    · rintro e w' ⟨ds, rfl, hB, hd, hW, hle⟩
      refine ⟨_, rfl, .inr ⟨g, 0, cap, rfl, by omega, by (first | exact e5 | (unfold maxLen at e5; omega)), fun i x hx => ?_⟩, hW.sub (by omega) (by omega)⟩
      rw [Nat.zero_add, hB.cell]
      exact hd i x hx
set_option maxRecDepth 100000 in
set_option maxHeartbeats 2000000 in
theorem different_any (sv : Value) (zs : List Int) (w : World) (h : IntSl w sv zs) (hl : zs.length ≤ 1000000) :
    Calls Tryz.prog 91 #[sv] w fun e w' => e = .returned (.int .i64 (difI zs)) ∧ Below w.heap.size w w' := by
  have H := Lib.hid h
  have HSO := Lib.hid (fun Bs sv w h1 h2 h3 => sorted_any Bs sv zs (by omega) w h1 h2 h3)
  obtain ⟨ws, hws⟩ : ∃ ws, srt zs = ws := ⟨_, rfl⟩
  have hwl : ws.length ≤ 1000000 := by rw [← hws, length_srt]; exact hl
  have HCM := Lib.hid (fun lo hi v w h => compactB_any lo hi v ws w h hwl)
  have hdd := difI_srt zs
  rw [hws] at HSO hdd
  rw [← hdd]
  obtain ⟨a, c, rfl⟩ := h.len
  obtain ⟨DD, hDD⟩ : ∃ DD, ddp ws = DD := ⟨_, rfl⟩
  rw [hDD] at HCM ⊢
  clear h hws hdd hDD
  go_enter Tryz.func91, Tryz.ntmps91
  go_wp2_with (first | (go_at_call 46; refine (values_any _ _ _ _).mono ?_; rintro e w' ⟨rfl, rfl⟩) | (go_at_call 45; refine (HSO.out w.heap.size (.slice a zs.length c) _ (by simp) ((Blk.new (cs := #[.slice a zs.length c]) (T := 30) w.heap.size rfl : Blk (w.alloc _) w.heap.size _ _).cell 0) ((H.out.by ((Below.refl _ w).alloc (Nat.le_refl _) _)).at)).mono ?_; rintro e w1 ⟨v, rfl, hB, hb⟩; obtain ⟨a1, c1, rfl⟩ := hB.sized; have HB := Lib.hid hB; have Hb := Lib.hid hb; clear hB hb) | (go_at_call 111; refine (HCM.out _ _ _ _ HB.out).mono ?_; rintro e w2 ⟨v2, rfl, hI2, hw2⟩; obtain ⟨a2, c2, rfl⟩ := hI2.len; have HW2 := Lib.hid hw2; clear hI2 hw2))
  go_ret
  refine ⟨rfl, ?_⟩
  have h1 := Hb.out
  have h2 : Below w.heap.size w w1 := below_on h1 ((Below.refl _ w).alloc (Nat.le_refl _) _)
  exact HW2.out.below h2 (by simp)
def cntC (c : List Int × List Int) : Int := (difI c.1 : Int) + (difI c.2 : Int)
set_option maxRecDepth 100000 in
set_option maxHeartbeats 2000000 in
theorem colorCount_any (c : List Int × List Int) (u : Value) (w : World) (h : CoV w u c) (h1 : c.1.length ≤ 1000000) (h2 : c.2.length ≤ 1000000) :
    Calls Tryz.prog 68 #[u] w fun e w' => e = .returned (.int .i64 (cntC c)) ∧ Below w.heap.size w w' := by
  obtain ⟨s1, s2, rfl, hc1, hc2⟩ := h
  have H1 := Lib.hid (fun w h => different_any s1 c.1 w h h1)
  have H2 := Lib.hid (fun w h => different_any s2 c.2 w h h2)
  have HC1 := Lib.hid hc1
  have HC2 := Lib.hid hc2
  obtain ⟨a, ca, rfl⟩ := hc1.len
  obtain ⟨a', ca', rfl⟩ := hc2.len
  have hd1 := difI_le c.1
  have hd2 := difI_le c.2
  unfold cntC
  generalize difI c.1 = D1 at *
  generalize difI c.2 = D2 at *
  have hw : IntKind.i64.wrap ((D1 : Int) + (D2 : Int)) = (D1 : Int) + (D2 : Int) := by simp [IntKind.wrap, IntKind.bits, IntKind.signed]; omega
  clear hc1 hc2
  go_enter Tryz.func68, Tryz.ntmps68
  go_wp2_with fail
  have kC : Blk (w.alloc (.cells #[.slice a c.1.length ca, .slice a' c.2.length ca'] 77)) w.heap.size #[.slice a c.1.length ca, .slice a' c.2.length ca'] 77 := Blk.new _ rfl
  have qC := kC.cell
  go_region_held3 ((fun w' => (Blk w' (w.heap.size) #[.slice a c.1.length ca, .slice a' c.2.length ca'] 77 ∧ ∀ o, w'.cell? ⟨w.heap.size, o, none⟩ = (#[.slice a c.1.length ca, .slice a' c.2.length ca'] : Array Value)[o]?) ∧ Below w.heap.size w w')) (((try (obtain ⟨⟨hS0, _⟩, hSB⟩ := hHeld)); refine ⟨Blk.both ?_, ?_⟩ <;> first | ((repeat (first | (with_reducible assumption) | (with_reducible refine Blk.drewN ?_ _) | (with_reducible refine Blk.drew ?_) | ((with_reducible refine Blk.new _ ?_); focus (first | omega | (simp; done) | (simp; omega))) | (with_reducible refine Blk.past ?_ _) | ((with_reducible refine Blk.apart ?_ _ _ _ ?_); rotate_left; focus (first | omega | (simp; done) | (simp; omega))) | (with_reducible refine Blk.by (by assumption) ?_))); done) | ((repeat (first | (with_reducible exact Below.refl _ _) | (with_reducible refine below_drewN ?_ _) | (with_reducible refine Below.drew ?_) | (with_reducible refine below_al ?_ _) | (with_reducible refine below_on (by assumption) ?_) | ((with_reducible refine Below.setCell ?_ ?_ _); rotate_left; focus (first | omega | (simp; done) | (simp; omega))) | (with_reducible assumption))); done)))
    (first | (go_at_call_of 91 (Value.slice a c.1.length ca); refine (H1.out _ (HC1.out.by blwT)).mono ?_; rintro e w1 ⟨rfl, hb1⟩; (try (refine with_fact (p := Blk w1 (w.heap.size) #[.slice a c.1.length ca, .slice a' c.2.length ca'] 77) (Blk.by hb1 ?_) ?_; (focus ((repeat (first | (with_reducible assumption) | (with_reducible refine Blk.drewN ?_ _) | (with_reducible refine Blk.drew ?_) | ((with_reducible refine Blk.new _ ?_); focus (first | omega | (simp; done) | (simp; omega))) | (with_reducible refine Blk.past ?_ _) | ((with_reducible refine Blk.apart ?_ _ _ _ ?_); rotate_left; focus (first | omega | (simp; done) | (simp; omega))) | (with_reducible refine Blk.by (by assumption) ?_))); done)); intro k3; have c3' := k3.cell))) | (go_at_call_of 91 (Value.slice a' c.2.length ca'); refine (H2.out _ (HC2.out.by blwT)).mono ?_; rintro e w2 ⟨rfl, hb2⟩))
  all_goals go_wp2
  all_goals go_ret
  all_goals exact ⟨ret_i64 (by first | exact hw | rfl), blwT⟩
theorem ownR_three {w : World} {g : Nat} {a b c : Int} (h : Blk w g #[.int .i64 a, .int .i64 b, .int .i64 c] 2) : OwnR w g (g + 1) (.slice (some ⟨g, 0, none⟩) 3 3) [a, b, c] :=
  .inr ⟨g, 3, _, rfl, Nat.le_refl _, Nat.lt_succ_self _, Nat.le_refl _, by unfold maxLen; omega, h, fun i x hx => by
    match i, hx with
    | 0, hx => simp at hx; subst hx; rfl
    | 1, hx => simp at hx; subst hx; rfl
    | 2, hx => simp at hx; subst hx; rfl
    | i + 3, hx => simp at hx⟩
/- The program's initialColoring. -/
set_option maxRecDepth 100000 in
set_option maxHeartbeats 2000000 in
theorem implIni_any (x : Nl) (v : Value) (m : Nat) (w : World) (h : NlV w v x) (hm : x.nets = m) (hm24 : m ≤ 24) (hl : x.ds.length ≤ 24) (hpl : x.ps.length ≤ 8) (hpn : ∀ p ∈ x.ps, 0 ≤ p.net ∧ p.net < x.nets) :
    Calls Tryz.prog 66 #[v] w fun e w' => ∃ v', e = .returned v' ∧ OwnPr w' w.heap.size w'.heap.size v' (iniS x) ∧ Below w.heap.size w w' := by
  obtain ⟨s1, s2, rfl, hd, hp⟩ := h
  obtain ⟨Y, hY⟩ : ∃ Y, iniS x = Y := ⟨_, rfl⟩
  rw [hY]
  have hY' : (rankS ((List.range m).map fun j : Nat => portTo x.ps (j : Int) x.ps.length), rankS (devL x.ds)) = Y := by rw [← hY]; unfold iniS netL; rw [hm, Int.toNat_natCast]
  have HY := Lib.hid hY'
  obtain ⟨nets, ds, ps⟩ := x
  dsimp only at hd hp hm hl hpl HY hpn
  subst hm
  have HD := Lib.hid hd
  have HP := Lib.hid hp
  have HPN := Lib.hid hpn
  have HPS := Lib.hid (fun net k p => portTo_step ps net k p)
  have HPL := Lib.hid (fun net k => portTo_len ps net k)
  have HP0 := Lib.hid (fun net => show portTo ps net 0 = [] from rfl)
  have HDL := Lib.hid (length_devL ds)
  have HDT := Lib.hid (fun k d (h : ds[k]? = some d) => show (devL ds).take (k + 1) = (devL ds).take k ++ [[d.kind, d.wd, d.len]] from take_snoc_of (devL ds) k _ (by simp [devL, h]))
  have HR1 := Lib.hid (fun sv w h hf => implRanks_any ((List.range m).map fun j : Nat => portTo ps (j : Int) ps.length) sv w h hf (by simp; omega))
  have HR2 := Lib.hid (fun sv w h hf => implRanks_any (devL ds) sv w h hf (by rw [length_devL]; omega))
  generalize devL ds = DL at *
  obtain ⟨a1, c1, rfl⟩ := hd.sized
  obtain ⟨a2, c2, rfl⟩ := hp.sized
  obtain ⟨N, hN⟩ : ∃ N, w.heap.size + 1 + 1 = N := ⟨_, rfl⟩
  obtain ⟨cs0, hcs0, hcz, hmk⟩ := make_lists m (by omega) ((w.alloc (.cells #[.int .i64 (m : Int), .slice a1 ds.length c1, .slice a2 ps.length c2] 27)).alloc (.cells #[.slice none 0 0, .slice none 0 0] 77))
  simp only [World.size_alloc] at hmk
  have HN := Lib.hid hN
  clear hd hp hY hY' hpn hN
  go_enter Tryz.func66, Tryz.ntmps66
  go_wp2
  clear hmk
  rw [HN.out]
  obtain ⟨wI, hwI⟩ : ∃ wI, wI = (((w.alloc (.cells #[.int .i64 (m : Int), .slice a1 ds.length c1, .slice a2 ps.length c2] 27)).alloc (.cells #[.slice none 0 0, .slice none 0 0] 77)).alloc (.cells cs0 30)).alloc (.cells #[] 30) := ⟨_, rfl⟩
  have kA : Blk wI w.heap.size #[.int .i64 (m : Int), .slice a1 ds.length c1, .slice a2 ps.length c2] 27 := by rw [hwI]; exact blkT
  have kR : Blk wI (w.heap.size + 1) #[.slice none 0 0, .slice none 0 0] 77 := by rw [hwI]; exact blkT
  have kN : Blk wI N cs0 30 := by rw [hwI, ← HN.out]; exact blkT
  have kE : Blk wI (N + 1) #[] 30 := by rw [hwI, ← HN.out]; exact blkT
  have hbI : Below w.heap.size w wI := by rw [hwI]; exact blwT
  have hsI : wI.heap.size = N + 2 := by rw [hwI, ← HN.out]; simp
  have hNI : NetsI wI N (N + 2) m (fun j : Nat => portTo ps (j : Int) 0) := by
    refine ⟨cs0, fun _ => .slice none 0 0, kN, hcs0, fun j hj => ⟨hcz j hj, ?_⟩, fun i j hi hj hij g hg => by cases hg⟩
    show BldI wI (N + 2) wI.heap.size (.slice none 0 0) (portTo ps (j : Int) 0)
    rw [HP0.out]
    exact BldI.nil wI (N + 2)
  have HNI := Lib.hid hNI
  have hNw : w.heap.size + 1 < N := by have := HN.out; omega
  rw [← hwI]
  clear hwI kN hcz hcs0 hsI hNI
  go_loopw [16] (fun i wr => ∃ k : Nat, k ≤ ps.length ∧ i = .int .i64 k ∧ Hid (NetsI wr N (N + 2) m (fun j : Nat => portTo ps (j : Int) k)) ∧ Blk wr w.heap.size #[.int .i64 (m : Int), .slice a1 ds.length c1, .slice a2 ps.length c2] 27 ∧ Blk wr (w.heap.size + 1) #[.slice none 0 0, .slice none 0 0] 77 ∧ Blk wr (N + 1) #[] 30 ∧ Below w.heap.size w wr) (fun i _ => ps.length - (intOf i).toNat)
  case atStart => exact ⟨0, Nat.zero_le _, rfl, HNI, kA, kR, kE, hbI⟩
  case round =>
    clear HNI kA kR kE hbI
    obtain ⟨k, hk, rfl, HNI, kA, kR, kE, hb⟩ := hrel
    have qA := kA.cell
    have lA := kA.lt
    have lE := kE.lt
    by_cases hlt : k < ps.length
    · obtain ⟨p, hp⟩ : ∃ p, ps[k]? = some p := ⟨ps[k], List.getElem?_eq_getElem hlt⟩
      obtain ⟨hp0, hp1⟩ := HPN.out p (List.mem_of_getElem? hp)
      rcases HP.out with ⟨_, _, _, e2⟩ | ⟨pb, po, pc, he, _, _, h4⟩
      · rw [e2] at hp; simp at hp
      obtain ⟨rfl, rfl⟩ : a2 = some ⟨pb, po, none⟩ ∧ c2 = pc := by simpa using he
      obtain ⟨p1, p2⟩ := (h4 k p hp).by hb
      have hst := fun net => HPS.out net k p hp
      obtain ⟨name, net⟩ := p
      dsimp only at p1 p2 hst hp0 hp1
      obtain ⟨pn, rfl⟩ : ∃ n : Nat, net = n := ⟨net.toNat, by omega⟩
      have hpm : pn < m := by omega
      obtain ⟨cs, vs, n1, n2, n3, n4⟩ := HNI.out
      obtain ⟨n5, n6⟩ := n3 pn hpm
      obtain ⟨av, cv, hvs⟩ := n6.sized
      have hlen := HPL.out (pn : Int) k
      have HST := Lib.hid hst
      have HN1 := Lib.hid n1
      have HN2 := Lib.hid n2
      have HN3 := Lib.hid n3
      have HN4 := Lib.hid n4
      have HN6 := Lib.hid n6
      have cN : wr.cell? ⟨N, pn, none⟩ = some (vs pn) := (n1.cell _).trans n5
      have lN := n1.lt
      have i1 : (0 : Int) ≤ (k : Int) := by omega
      have i2 : (k : Int) < (ps.length : Int) := by omega
      have i3 : (0 : Int) ≤ (pn : Int) := by omega
      have i4 : (pn : Int) < (m : Int) := by omega
      have hvo : (vs pn).ownBlock ≠ some N := fun e => by have := n6.2.2 N e; omega
      have hvl : ∀ g, (vs pn).ownBlock = some g → N + 2 ≤ g ∧ g < wr.heap.size := fun g e => n6.2.2 g e
      have HVL := Lib.hid hvl
      clear hp h4 he hst n1 n2 n3 n4 n5 n6 hvl hp0 hp1
      rw [hvs] at cN HN6
      have HVS := Lib.hid hvs
      obtain ⟨wo, hwo⟩ : ∃ y : World, y = wr := ⟨_, rfl⟩
      subst hwo
      clear hvs
      go_upto_region 5 with fail
      obtain ⟨D, hD⟩ : ∃ D, wo.heap.size = D := ⟨_, rfl⟩
      obtain ⟨wA, hwA⟩ : ∃ wA, wA = wo.alloc (.cells #[.string name, .int .i64 (pn : Int)] 52) := ⟨_, rfl⟩
      have hal : Below wo.heap.size wo wA := by rw [hwA]; exact (Below.refl _ wo).alloc (Nat.le_refl _) _
      have kD : Blk wA D #[.string name, .int .i64 (pn : Int)] 52 := by rw [hwA]; exact Blk.new _ hD.symm
      have hsA : wA.heap.size = D + 1 := by rw [hwA]; simp [hD]
      rw [← hwA]
      (try rw [hD])
      have cD1 : wA.cell? ⟨D, 1, none⟩ = some (.int .i64 (pn : Int)) := kD.cell 1
      have cNA : wA.cell? ⟨N, pn, none⟩ = some (.slice av (portTo ps (pn : Int) k).length cv) := cell_by' hal cN
      have HAL := Lib.hid hal
      have HDD := Lib.hid hD
      have HSA := Lib.hid hsA
      clear hwA cN qA hal hD hsA p1 p2
      refine wp_region_any (by kernel_rfl) (wpAny_of_E (S := fun w' => w'.cell? ⟨D, 1, none⟩ = some (.int .i64 (pn : Int)) ∧ w'.cell? ⟨N, pn, none⟩ = some (.slice av (portTo ps (pn : Int) k).length cv)) (l := 12) _ _ _ _ ?_)
      have hS : (fun w' : World => w'.cell? ⟨D, 1, none⟩ = some (.int .i64 (pn : Int)) ∧ w'.cell? ⟨N, pn, none⟩ = some (.slice av (portTo ps (pn : Int) k).length cv)) { wA with drawn := wA.drawn + 1 } := ⟨cD1, cNA⟩
      change wpAnyE _ _ _ _ _ _ _ _ _ wA.drew
      refine wpAnyE_take (i := 0) (v := ?_) rfl (by kernel_rfl) (fun _ _ _ h => h) (Or.inl ⟨by rfl, ?_⟩) hS ?_
      rotate_left
      · intro w hSw; (try dsimp only at hSw); go_simp; (try with_reducible rfl)
      try simp only [Act.put, List.setIfInBounds_toArray, List.set_cons_zero, List.set_cons_succ]
      refine wpAnyE_take (i := 1) (v := ?_) rfl (by kernel_rfl) (fun _ _ _ h => h) (Or.inl ⟨by rfl, ?_⟩) hS ?_
      rotate_left
      · intro w hSw; (try dsimp only at hSw); go_simp; (try with_reducible rfl)
      try simp only [Act.put, List.setIfInBounds_toArray, List.set_cons_zero, List.set_cons_succ]
      refine wpAnyE_take (i := 2) (v := ?_) rfl (by kernel_rfl) (fun _ _ _ h => h) (Or.inl ⟨by rfl, ?_⟩) hS ?_
      rotate_left
      · intro w hSw; (try dsimp only at hSw); go_simp; (try with_reducible rfl)
      try simp only [Act.put, List.setIfInBounds_toArray, List.set_cons_zero, List.set_cons_succ]
      refine wpAnyE_take (i := 3) (v := ?_) rfl (by kernel_rfl) (fun _ _ _ h => h) (Or.inl ⟨by rfl, ?_⟩) hS ?_
      rotate_left
      · intro w hSw; (try dsimp only at hSw); go_simp; (try with_reducible rfl)
      try simp only [Act.put, List.setIfInBounds_toArray, List.set_cons_zero, List.set_cons_succ]
      refine wpAnyE_take (i := 4) (v := ?_) rfl (by kernel_rfl) (fun _ _ _ h => h) (Or.inl ⟨by rfl, ?_⟩) hS ?_
      rotate_left
      · intro w hSw; (try dsimp only at hSw); go_simp; (try with_reducible rfl)
      try simp only [Act.put, List.setIfInBounds_toArray, List.set_cons_zero, List.set_cons_succ]
      refine wpAnyE_take (i := 5) (v := ?_) rfl (by kernel_rfl) (fun _ _ _ h => h) (Or.inl ⟨by rfl, ?_⟩) hS ?_
      rotate_left
      · intro w hSw; (try dsimp only at hSw); go_simp; (try with_reducible rfl)
      try simp only [Act.put, List.setIfInBounds_toArray, List.set_cons_zero, List.set_cons_succ]
      refine wpAnyE_take (i := 6) (v := ?_) rfl (by kernel_rfl) (fun _ _ _ h => h) (Or.inl ⟨by rfl, ?_⟩) hS ?_
      rotate_left
      · intro w hSw; (try dsimp only at hSw); go_simp; (try with_reducible rfl)
      try simp only [Act.put, List.setIfInBounds_toArray, List.set_cons_zero, List.set_cons_succ]
      refine wpAnyE_take (i := 7) (v := ?_) rfl (by kernel_rfl) (fun _ _ _ h => h) (Or.inl ⟨by rfl, ?_⟩) hS ?_
      rotate_left
      · intro w hSw; (try dsimp only at hSw); go_simp; (try with_reducible rfl)
      try simp only [Act.put, List.setIfInBounds_toArray, List.set_cons_zero, List.set_cons_succ]
      refine wpAnyE_take (i := 8) (v := ?_) rfl (by kernel_rfl) (fun _ _ _ h => h) (Or.inl ⟨by rfl, ?_⟩) hS ?_
      rotate_left
      · intro w hSw; (try dsimp only at hSw); go_simp; (try with_reducible rfl)
      try simp only [Act.put, List.setIfInBounds_toArray, List.set_cons_zero, List.set_cons_succ]
      refine wpAnyE_one (k := 9) (by kernel_rfl) rfl (fun K hK => ?_)
      go_simp
      have hal2 : Below wA.heap.size wA (wA.drew.alloc (.cells #[.int .i64 (k : Int)] 2)) := (Below.refl _ wA).drew.alloc (Nat.le_refl _) _
      refine hK.out _ _ (fun _ => ⟨cell_by' hal2 cD1, cell_by' hal2 cNA⟩) ?_
      try simp only [Act.put, List.setIfInBounds_toArray, List.set_cons_zero, List.set_cons_succ]
      refine wpAnyE_one (k := 10) (by kernel_rfl) rfl (fun K hK => ?_)
      refine step_pushG (by rfl) _ _ (by rfl) (N + 2) wo.heap.size (.slice av (portTo ps (pn : Int) k).length cv) (portTo ps (pn : Int) k) [(k : Int)] (by rfl) ((HN6.out.by HAL.out).by hal2) wA.heap.size 1 #[.int .i64 (k : Int)] (by rfl) rfl (by omega) (Blk.new _ rfl) rfl (by omega) (by omega) ?_
      intro g5 c5 w5 hB5 hk5 ho5 hw5
      have hsz5 := hw5.size
      simp only [World.size_alloc, World.size_drew] at hsz5 hk5 ho5
      have HVS' := HVS.out
      have hvo' : (Value.slice av (portTo ps (pn : Int) k).length cv).ownBlock ≠ some N := by rw [← HVS']; exact hvo
      have hvl' : ∀ g, (Value.slice av (portTo ps (pn : Int) k).length cv).ownBlock = some g → N + 2 ≤ g ∧ g < wo.heap.size := by rw [← HVS']; exact HVL.out
      have hDn : (Value.slice av (portTo ps (pn : Int) k).length cv).ownBlock ≠ some D := fun e => by have := hvl' D e; have := HDD.out; omega
      have hsA := HSA.out
      have hDD := HDD.out
      have hold : ∀ q, q < wo.heap.size → (Value.slice av (portTo ps (pn : Int) k).length cv).ownBlock ≠ some q → w5.heap[q]? = wo.heap[q]? := fun q hq hne => (hk5 q (by omega) hne).trans ((hal2.block q (by omega)).trans (HAL.out.block q hq))
      have cN5 : w5.cell? ⟨N, pn, none⟩ = some (.slice av (portTo ps (pn : Int) k).length cv) := by
        have := cell_by' hal2 cNA
        rw [← this]
        simp only [World.cell?]
        rw [hk5 N (by omega) hvo']
        rfl
      have kD5 : Blk w5 D #[.string name, .int .i64 (pn : Int)] 52 := (hk5 D (by omega) hDn).trans (Blk.by hal2 kD)
      have cD5 : w5.cell? ⟨D, 1, none⟩ = some (.int .i64 (pn : Int)) := kD5.cell 1
      have kN5 : Blk w5 N _ 30 := (hold N (by omega) hvo').trans HN1.out
      have fN5 := kN5.free
      have lN5 := kN5.lt
      have hS5 : w5.cell? ⟨D, 1, none⟩ = some (.int .i64 (pn : Int)) ∧ w5.cell? ⟨N, pn, none⟩ = some (.slice av (portTo ps (pn : Int) k).length cv) := ⟨cD5, cN5⟩
      have hA5 : (Value.slice av (portTo ps (pn : Int) k).length cv).ownBlock ≠ some w.heap.size := fun e => by have := hvl' _ e; omega
      have hR5 : (Value.slice av (portTo ps (pn : Int) k).length cv).ownBlock ≠ some (w.heap.size + 1) := fun e => by have := hvl' _ e; omega
      have hE5 : (Value.slice av (portTo ps (pn : Int) k).length cv).ownBlock ≠ some (N + 1) := fun e => by have := hvl' _ e; omega
      have kA5 : Blk w5 w.heap.size _ 27 := (hold _ kA.lt hA5).trans kA
      have kR5 : Blk w5 (w.heap.size + 1) #[.slice none 0 0, .slice none 0 0] 77 := (hold _ kR.lt hR5).trans kR
      have kE5 : Blk w5 (N + 1) #[] 30 := (hold _ kE.lt hE5).trans kE
      have hW5 : Within (N + 2) wo.heap.size wo w5 := ⟨hw5.os.trans (hal2.os.trans HAL.out.os), hw5.tape.trans (hal2.tape.trans HAL.out.tape), hw5.output.trans (hal2.output.trans HAL.out.output), by omega, fun q hq hne => hold q hq (fun e => by have := hvl' q e; omega)⟩
      have hb5 := hW5.below hb (by omega)
      have HB5 := Lib.hid hB5
      have HK5 := Lib.hid hold
      have HO5 := Lib.hid ho5
      clear hB5 hk5 hold ho5 HVS'
      refine hK.out _ _ (fun _ => hS5) ?_
      try simp only [Act.put, List.setIfInBounds_toArray, List.set_cons_zero, List.set_cons_succ]
      refine wpAnyE_one (k := 11) (by kernel_rfl) rfl (fun K hK => ?_)
      go_simp
      refine hK.out _ _ (fun _ => hS5) ?_
      try simp only [Act.put, List.setIfInBounds_toArray, List.set_cons_zero, List.set_cons_succ]
      refine wpAnyE_one (k := 12) (by kernel_rfl) rfl (fun K hK => ?_)
      go_simp
      refine hK.out _ _ (fun h => absurd rfl h) ?_
      refine wpAnyE_done (by kernel_rfl) ?_ _
      clear hS hS5
      go_wp2_with fail
      have hstep : portTo ps (pn : Int) (k + 1) = portTo ps (pn : Int) k ++ [(k : Int)] := by rw [HST.out]; simp
      have hlen2 : (portTo ps (pn : Int) (k + 1)).length = (portTo ps (pn : Int) k).length + 1 := by rw [hstep]; simp
      refine ⟨⟨k + 1, by omega, by go_num, Lib.hid ?_, kA5.apart N pn _ (by omega), kR5.apart N pn _ (by omega), kE5.apart N pn _ (by omega), hb5.setCell (by simp; omega) _⟩, by simp [intOf]; omega⟩
      have hfin := NetsI.grow (lst := fun j : Nat => portTo ps (j : Int) k) (lst' := fun j : Nat => portTo ps (j : Int) (k + 1)) (g := g5) (cap := c5) HN1.out HN2.out HN3.out HN4.out hpm (by omega) (by
        (try dsimp only)
        rw [hlen2, hstep]
        exact HB5.out) (by rw [HVS.out]; exact HK5.out) (by rw [HVS.out]; exact HO5.out.imp id (fun e => by omega)) (by omega) (fun i hi => by
        (try dsimp only)
        rw [HST.out, if_neg (by omega), List.append_nil])
      (try dsimp only at hfin)
      rw [hlen2] at hfin
      exact hfin
    · obtain rfl : k = ps.length := by omega
      obtain ⟨wo, hwo⟩ : ∃ y : World, y = wr := ⟨_, rfl⟩
      subst hwo
      have hNI := HNI.out
      have HNO := Lib.hid hNI
      have hlo := kE.lt
      clear hNI HNI
      go_wp2
      go_loopw [4, 37] (fun u i wr2 => ∃ (j h2 : Nat), j ≤ ds.length ∧ i = .int .i64 j ∧ Hid (BldL wr2 (N + 1) h2 u (DL.take j)) ∧ N + 1 < h2 ∧ wo.heap.size ≤ wr2.heap.size ∧ (∀ g, u.ownBlock = some g → g = N + 1 ∨ wo.heap.size ≤ g) ∧ Off (N + 1) wo wr2 ∧ Below w.heap.size w wr2) (fun _ i _ => ds.length - (intOf i).toNat)
      case atStart =>
        refine ⟨0, N + 2, Nat.zero_le _, rfl, Lib.hid ?_, by omega, Nat.le_refl _, fun g0 e0 => .inl ?_, fun q hq hne => rfl, hb⟩
        · rw [List.take_zero]
          exact BldL.lit kE (Nat.le_refl _) (by omega) (by omega)
        · have e1 : N + 1 = g0 := by injection e0
          exact e1.symm
      case round =>
        obtain ⟨j, h2, hj, rfl, HBd, hh2, hsl, hOw, hOff, hbw⟩ := hrel
        obtain ⟨ad, cd, rfl⟩ := HBd.out.sized
        have hml : (DL.take j).length = j := by rw [List.length_take, HDL.out]; omega
        rw [hml] at HBd hOw ⊢
        have HML := Lib.hid hml
        have hIs := HBd.out.1
        have hAl := kA.lt
        have hRl := kR.lt
        have kA2 := hOff.blk kA (by omega)
        have kR2 := hOff.blk kR (by omega)
        have qA2 := kA2.cell
        have lA2 := kA2.lt
        clear qA hml
        by_cases hlj : j < ds.length
        · obtain ⟨d, hd⟩ : ∃ d, ds[j]? = some d := ⟨ds[j], List.getElem?_eq_getElem hlj⟩
          rcases HD.out with ⟨_, _, _, e2⟩ | ⟨db, do_, dc, he, _, _, h4⟩
          · rw [e2] at hd; simp at hd
          obtain ⟨rfl, rfl⟩ : a1 = some ⟨db, do_, none⟩ ∧ c1 = dc := by simpa using he
          obtain ⟨sp, d1, d2, d3, d4, hS⟩ := (h4 j d hd).by hbw
          obtain ⟨ap, cp, rfl⟩ := hS.len
          have HDX := Lib.hid (HDT.out j d hd)
          have j1 : (0 : Int) ≤ (j : Int) := by omega
          have j2 : (j : Int) < (ds.length : Int) := by omega
          clear hd h4 he hS
          go_wp2_with (refine list_pushLG (by rfl) _ _ (by rfl) (N + 1) h2 (.slice ad j cd) (DL.take j) (by rfl) (HBd.out.by blwT) (wr.heap.size + 1 + 1) [d.kind, d.wd, d.len] _ (wr.heap.size + 1) (by rfl) (Blk.new _ (by simp)) (ownR_three ((Blk.new _ (by simp)).past _)) (by omega) (by omega) (by simp) (by rw [HML.out]; omega) ?_; intro a5 c5 w5 hB5 hk5 ho5 hw5; have HB5 := Lib.hid hB5; rw [HML.out]; clear hB5)
          have hsz := hw5.size
          simp only [World.size_alloc] at hsz hk5 ho5
          have hal3 : Below wr.heap.size wr (((wr.alloc (.cells #[.int .i64 d.kind, .slice ap d.pins.length cp, .int .i64 d.wd, .int .i64 d.len] 54)).alloc (.cells #[.int .i64 d.kind, .int .i64 d.wd, .int .i64 d.len] 2)).alloc (.cells #[.slice (some ⟨wr.heap.size + 1, 0, none⟩) 3 3] 30)) := blwT
          refine ⟨⟨j + 1, w5.heap.size, by omega, by go_num, Lib.hid ?_, by omega, by omega, fun g0 e0 => ?_, fun q hq hne => ?_, hw5.below (below_on hal3 hbw) (by omega)⟩, by simp [intOf]; omega⟩
          rotate_left
          · have e1 : a5 = g0 := by injection e0
            subst e1
            rcases ho5 with h | h
            · exact hOw _ h
            · omega
          · refine (hk5 q (by omega) (fun e => by have := hOw q e; omega)).trans ((hal3.block q (by omega)).trans (hOff q hq hne))
          rw [HDX.out]
          have := HB5.out
          rw [HML.out] at this
          exact this
        · obtain rfl : j = ds.length := by omega
          have hLL2 := HBd.out.ll
          rw [List.take_of_length_le (by rw [HDL.out]; exact Nat.le_refl _)] at hLL2
          have HLL2 := Lib.hid hLL2
          have hNL := NetsI.off HNO.out hOff hsl
          have HNL2 := Lib.hid (hNL.ll (by omega))
          have hlsz := hNL
          clear hLL2 HBd hNL hlsz
          go_wp2_with fail
          refine (HR1.out _ _ HNL2.out (.inr ⟨_, _, _, rfl⟩)).mono ?_
          rintro e w6 ⟨v6, rfl, hO6, hb6⟩
          have HO6 := Lib.hid hO6
          obtain ⟨a6, c6, rfl⟩ := hO6.sl.len
          have hs6 := hb6.size
          clear hO6
          go_wp2_with fail
          refine (HR2.out _ _ (HLL2.out.1.by hb6) (HLL2.out.2.imp id (fun ⟨b, c, e⟩ => ⟨b, _, c, e⟩))).mono ?_
          rintro e w7 ⟨v7, rfl, hO7, hb7⟩
          have HO7 := Lib.hid hO7
          obtain ⟨a7, c7, rfl⟩ := hO7.sl.len
          have hs7 := hb7.size
          have kR7 := Blk.by hb7 (Blk.by hb6 kR2)
          have qR := kR7.cell
          have fR := kR7.free
          have lR := kR7.lt
          have hbw7 := below_on hb7 (below_on hb6 hbw)
          clear hO7 qA2
          generalize rankS ((List.range m).map fun j : Nat => portTo ps (j : Int) ps.length) = K1 at *
          generalize rankS DL = K2 at *
          go_wp2
          refine bodyPost_ret (v := .agg #[.slice a6 K1.length c6, .slice a7 K2.length c7]) (by simp [results, Tryz.results66, go_sem, *]) rfl ⟨_, rfl, ?_, blwT⟩
          have hy := HY.out
          rw [← hy]
          refine ⟨_, _, wr.heap.size, w6.heap.size, w6.heap.size, w7.heap.size, rfl, ?_, ?_, ⟨by omega, by simp; omega⟩, ⟨by omega, by simp; try omega⟩, .inl (Nat.le_refl _)⟩
          · exact OwnR.past (Within.off _) (OwnR.past (Within.off _) (OwnR.by hb7 HO6.out) (by omega)) (by omega)
          · exact OwnR.past (Within.off _) (OwnR.past (Within.off _) HO7.out (by omega)) (by omega)
theorem rankS_lt {ls : List (List Int)} {z : Int} (h : z ∈ rankS ls) : 0 ≤ z ∧ z < (ls.length : Int) := by
  obtain ⟨x, hx, rfl⟩ := List.mem_map.1 h
  have hf : x ∈ fsts ls := mem_fsts.2 hx
  have hfl : (fsts ls).length ≤ ls.length := by
    unfold fsts
    rw [List.length_map]
    have := List.length_filter_le (firstAt ls) (List.range ls.length)
    simpa using this
  have hle := List.countP_le_length (p := fun y => decide (lcmp y x < 0)) (l := fsts ls)
  have hne : (fsts ls).countP (fun y => decide (lcmp y x < 0)) ≠ (fsts ls).length := fun e => by
    have := (List.countP_eq_length.1 e) x hf
    simp [lcmp_self] at this
  rw [rankOf_fsts]
  omega
theorem colsB_rank {ls : List (List Int)} {n : Int} (h1 : (ls.length : Int) = n) (h2 : ls.length ≤ 24) : colsB (rankS ls) n = true := by
  simp only [colsB, Bool.and_eq_true, decide_eq_true_eq, List.all_eq_true, length_rankS]
  refine ⟨fun z hz => ?_, h1⟩
  have := rankS_lt hz
  exact inB_iff.2 (by omega)
theorem coB_ref {x : Nl} {c : List Int × List Int} (h : coB x c = true) : coB x (refS x c) = true := by
  obtain ⟨f1, f2, f3, f4⟩ := coB_facts h
  obtain ⟨g1, g2, g3, g4⟩ := coB_nets h
  have hb : nlB x = true := by
    simp only [coB, Bool.and_eq_true] at h
    exact h.1
  simp only [coB, Bool.and_eq_true]
  refine ⟨hb, colsB_rank (by simp; omega) (by simp; omega), colsB_rank (by simp [dsgLs]) (by simp [dsgLs]; omega)⟩
theorem coB_ini {x : Nl} (hb : nlB x = true) : coB x (iniS x) = true := by
  obtain ⟨⟨h0, h1⟩, hd, _⟩ := nlB_facts hb
  simp only [coB, Bool.and_eq_true]
  refine ⟨hb, colsB_rank (by rw [length_netL]; omega) (by rw [length_netL]; omega), colsB_rank (by rw [length_devL]) (by rw [length_devL]; omega)⟩
theorem coB_cnt {x : Nl} {c : List Int × List Int} (h : coB x c = true) : 0 ≤ cntC c ∧ cntC c ≤ 48 := by
  obtain ⟨f1, f2, f3, f4⟩ := coB_facts h
  have h1 := difI_le c.1
  have h2 := difI_le c.2
  unfold cntC
  omega
def refN (x : Nl) : Nat → List Int × List Int → Int → (List Int × List Int) × Int
  | 0, c, s => (c, s)
  | f + 1, c, s => if cntC (refS x c) ≤ cntC c then (c, s) else refN x f (refS x c) (s + 1)
theorem refN_stop {x : Nl} {f : Nat} {c : List Int × List Int} {s : Int} (h : cntC (refS x c) ≤ cntC c) : refN x (f + 1) c s = (c, s) := by
  show (if _ then _ else _) = _
  rw [if_pos h]
theorem refN_go {x : Nl} {f : Nat} {c : List Int × List Int} {s : Int} (h : ¬ cntC (refS x c) ≤ cntC c) : refN x (f + 1) c s = refN x f (refS x c) (s + 1) := by
  show (if _ then _ else _) = _
  rw [if_neg h]
theorem coB_refN {x : Nl} : ∀ (f : Nat) (c : List Int × List Int) (s : Int), coB x c = true → coB x (refN x f c s).1 = true
  | 0, c, s, h => h
  | f + 1, c, s, h => by
    by_cases e : cntC (refS x c) ≤ cntC c
    · rw [refN_stop e]; exact h
    · rw [refN_go e]; exact coB_refN f _ _ (coB_ref h)
def refNet (x : Nl) : (List Int × List Int) × Int := if nlB x = true then refN x 64 (iniS x) 0 else (([], []), -1)
/- RefineNetlist: the program's and the reference's. -/
theorem nl_netsR {x : Nl} (h : nlB x = true) : ∀ p ∈ x.ps, 0 ≤ p.net ∧ p.net < x.nets := by
  intro p hp
  obtain ⟨i, hi, e⟩ := List.mem_iff_getElem.1 hp
  have := (nlB_facts h).2.2.2.2 i hi
  have hg : x.ps[i]? = some p := by rw [List.getElem?_eq_getElem hi, e]
  simp only [ptOk, hg, Bool.and_eq_true] at this
  have h2 := inB_iff.1 this.2.1
  omega
set_option maxRecDepth 100000 in
set_option maxHeartbeats 4000000 in
theorem refined_any (x : Nl) (v : Value) (w : World) (h : NlV w v x) (hb0 : nlB x = true) :
    Calls Tryz.prog 39 #[v] w fun e w' => ∃ v', e = .returned (.tuple #[v', .int .i64 (refN x 64 (iniS x) 0).2]) ∧ OwnPr w' w.heap.size w'.heap.size v' (refN x 64 (iniS x) 0).1 ∧ Below w.heap.size w w' := by
  have HN := Lib.hid h
  obtain ⟨⟨hn0, hn1⟩, hd24, hp8, hdv, _⟩ := nlB_facts hb0
  have hnet := nl_netsR hb0
  obtain ⟨m, hm⟩ : ∃ m : Nat, x.nets = m := ⟨x.nets.toNat, by omega⟩
  have HII := Lib.hid (fun v w h => implIni_any x v m w h hm (by omega) hd24 hp8 hnet)
  have HCI := Lib.hid (coB_ini hb0)
  obtain ⟨RES, hRES⟩ : ∃ RES, refN x 64 (iniS x) 0 = RES := ⟨_, rfl⟩
  rw [hRES]
  have HRN := Lib.hid (show refN x (64 - 0) (iniS x) ((0 : Nat) : Int) = RES from hRES)
  obtain ⟨a, ca, a', ca', rfl⟩ := h.sized
  clear h hb0 hn0 hn1 hd24 hp8 hdv hnet hm hRES
  go_enter Tryz.func39, Tryz.ntmps39
  go_wp2_with fail
  have kA0 : Blk ((w.alloc (.cells #[.int .i64 x.nets, .slice a x.ds.length ca, .slice a' x.ps.length ca'] 27)).alloc (.cells #[.slice none 0 0, .slice none 0 0] 77)) w.heap.size #[.int .i64 x.nets, .slice a x.ds.length ca, .slice a' x.ps.length ca'] 27 := blkT
  have kR0 : Blk ((w.alloc (.cells #[.int .i64 x.nets, .slice a x.ds.length ca, .slice a' x.ps.length ca'] 27)).alloc (.cells #[.slice none 0 0, .slice none 0 0] 77)) (w.heap.size + 1) #[.slice none 0 0, .slice none 0 0] 77 := Blk.new _ (by simp)
  refine (HII.out _ _ (HN.out.by blwT)).mono ?_
  rintro e w1 ⟨v1, rfl, hO1, hb1⟩
  have HO1 := Lib.hid hO1
  obtain ⟨a1, c1, a2, c2, rfl⟩ := hO1.co.sized
  have hs1 := hb1.size
  simp only [World.size_alloc] at hs1 HO1
  have kA := Blk.by hb1 kA0
  have kR := Blk.by hb1 kR0
  have hb := below_on hb1 (below_two w (.cells #[.int .i64 x.nets, .slice a x.ds.length ca, .slice a' x.ps.length ca'] 27) (.cells #[.slice none 0 0, .slice none 0 0] 77))
  have qA := kA.cell
  clear hO1 hb1 kA0 kR0
  go_wp2
  obtain ⟨K, hK⟩ : ∃ K, w1.heap.size = K := ⟨_, rfl⟩
  obtain ⟨wK, hwK⟩ : ∃ z, z = w1.alloc (.cells #[.slice a1 (iniS x).1.length c1, .slice a2 (iniS x).2.length c2] 77) := ⟨_, rfl⟩
  have hal : Below w1.heap.size w1 wK := by rw [hwK]; exact (Below.refl _ w1).alloc (Nat.le_refl _) _
  have kK : Blk wK K #[.slice a1 (iniS x).1.length c1, .slice a2 (iniS x).2.length c2] 77 := by rw [hwK]; exact Blk.new _ hK.symm
  have hsK : wK.heap.size = K + 1 := by rw [hwK]; simp [hK]
  have kAK := Blk.by hal kA
  have kRK := Blk.by hal kR
  have hbK := below_on hal hb
  have HOK := Lib.hid (HO1.out.by hal)
  rw [hK] at HOK
  have lR0 := kR.lt
  have hKw : w.heap.size + 1 < K := by omega
  rw [← hwK]
  (try rw [hK])
  clear hwK hal kA kR hb HO1
  go_loopw [5] (fun s wr => ∃ (c : List Int × List Int) (k lo hi : Nat) (e : Option Addr) (ce : Nat) (e' : Option Addr) (ce' : Nat), s = .int .i64 (k : Int) ∧ k ≤ 63 ∧ Hid (coB x c = true ∧ refN x (64 - k) c (k : Int) = RES ∧ (49 : Int) ≤ ((64 - k : Nat) : Int) + cntC c) ∧ Blk wr K #[.slice e c.1.length ce, .slice e' c.2.length ce'] 77 ∧ Hid (OwnPr wr lo hi (.agg #[.slice e c.1.length ce, .slice e' c.2.length ce']) c) ∧ (w.heap.size + 1 < lo ∧ lo ≤ hi ∧ hi ≤ wr.heap.size ∧ (K < lo ∨ hi ≤ K)) ∧ Blk wr w.heap.size #[.int .i64 x.nets, .slice a x.ds.length ca, .slice a' x.ps.length ca'] 27 ∧ Blk wr (w.heap.size + 1) #[.slice none 0 0, .slice none 0 0] 77 ∧ Below w.heap.size w wr) (fun s _ => 64 - (intOf s).toNat)
  case atStart => exact ⟨iniS x, 0, w.heap.size + 1 + 1, K, a1, c1, a2, c2, rfl, by omega, Lib.hid ⟨HCI.out, HRN.out, by have := (coB_cnt HCI.out).1; omega⟩, kK, HOK, ⟨by omega, by omega, by omega, by omega⟩, kAK, kRK, hbK⟩
  case round =>
    clear kK kAK kRK hbK HOK hsK
    obtain ⟨c, k, lo, hi, e, ce, e', ce', rfl, hk, HF, kK, HO, ⟨hl1, hl2, hl3, hl4⟩, kA, kR, hb⟩ := hrel
    obtain ⟨hcb, hrn, hms⟩ := HF.out
    obtain ⟨f1, f2, f3, f4⟩ := coB_facts hcb
    obtain ⟨g1, g2, g3, g4⟩ := coB_nets hcb
    have hbd := refS_bounds hcb
    have hcr := coB_ref hcb
    have hcn := coB_cnt hcb
    have hcm := coB_cnt hcr
    have HI := Lib.hid (fun v u w h h' => implRefine_any x c c.1.length v u w h h' (by omega) f2 f1 rfl f3 g3 f4 (occs_ok hcb))
    have HCC := Lib.hid (fun u w h => colorCount_any c u w h (by omega) (by omega))
    have HCR := Lib.hid (fun u w h => colorCount_any (refS x c) u w h (by omega) (by omega))
    have HCR2 := Lib.hid hcr
    have qA := kA.cell
    have qK := kK.cell
    have HF1 := Lib.hid (show 64 - (k + 1) = 63 - k by omega)
    have hfs : 64 - k = (63 - k) + 1 := by omega
    rw [hfs] at hrn
    by_cases hle : cntC (refS x c) ≤ cntC c
    · have hd : decide (cntC (refS x c) ≤ cntC c) = true := decide_eq_true hle
      have HRES := Lib.hid (show (c, (k : Int)) = RES by rw [← hrn, refN_stop hle])
      clear hcb hrn f1 f2 f3 f4 g1 g2 g3 g4 hbd hcr HF hfs
      generalize refS x c = RR at *
      generalize cntC RR = K1 at *
      generalize cntC c = K2 at *
      go_wp2_with fail
      refine (HI.out _ _ _ (HN.out.by hb) HO.out.co).mono ?_
      rintro e2 w2 ⟨v2, rfl, hO2, hb2⟩
      have HO2 := Lib.hid hO2
      obtain ⟨b1, d1, b2, d2, rfl⟩ := hO2.co.sized
      have hs2 := hb2.size
      have lK := kK.lt
      have kA2 := Blk.by hb2 kA
      have kK2 := Blk.by hb2 kK
      have kR2 := Blk.by hb2 kR
      have hb2w := below_on hb2 hb
      have HC2 := Lib.hid (HO.out.by hb2)
      have qA2 := kA2.cell
      have qK2 := kK2.cell
      clear hO2 qA qK hb2 kA kK kR HO hb
      go_wp2_with fail
      obtain ⟨D, hD⟩ : ∃ D, w2.heap.size = D := ⟨_, rfl⟩
      obtain ⟨w3, hw3⟩ : ∃ z, z = w2.alloc (.cells #[.slice b1 RR.1.length d1, .slice b2 RR.2.length d2] 77) := ⟨_, rfl⟩
      have hal : Below w2.heap.size w2 w3 := by rw [hw3]; exact (Below.refl _ w2).alloc (Nat.le_refl _) _
      have kD3 : Blk w3 D #[.slice b1 RR.1.length d1, .slice b2 RR.2.length d2] 77 := by rw [hw3]; exact Blk.new _ hD.symm
      have hs3 : w3.heap.size = D + 1 := by rw [hw3]; simp [hD]
      have kA3 := Blk.by hal kA2
      have kK3 := Blk.by hal kK2
      have kR3 := Blk.by hal kR2
      have hb3w := below_on hal hb2w
      have HC3 := Lib.hid ((HC2.out.by hal).co)
      have HR3 := Lib.hid ((HO2.out.by hal).co)
      have HOC := Lib.hid (HC2.out.by hal)
      have HON := Lib.hid (HO2.out.by hal)
      rw [← hw3]
      (try rw [hD])
      (try rw [hD] at HON)
      clear hw3 hal kA2 kK2 kR2 qA2 qK2 hb2w HC2 HO2
      have hsz := hs3
      go_region_held3 ((fun w' => (Blk w' (D) #[.slice b1 RR.1.length d1, .slice b2 RR.2.length d2] 77 ∧ ∀ o, w'.cell? ⟨D, o, none⟩ = (#[.slice b1 RR.1.length d1, .slice b2 RR.2.length d2] : Array Value)[o]?) ∧ (Blk w' (K) #[.slice e c.1.length ce, .slice e' c.2.length ce'] 77 ∧ ∀ o, w'.cell? ⟨K, o, none⟩ = (#[.slice e c.1.length ce, .slice e' c.2.length ce'] : Array Value)[o]?) ∧ Below w.heap.size w w')) (((try (obtain ⟨⟨hS0, _⟩, ⟨hS1, _⟩, hSB⟩ := hHeld)); refine ⟨Blk.both ?_, Blk.both ?_, ?_⟩ <;> first | ((repeat (first | (with_reducible assumption) | (with_reducible refine Blk.drewN ?_ _) | (with_reducible refine Blk.drew ?_) | ((with_reducible refine Blk.new _ ?_); focus (first | omega | (simp; done) | (simp; omega))) | (with_reducible refine Blk.past ?_ _) | ((with_reducible refine Blk.apart ?_ _ _ _ ?_); rotate_left; focus (first | omega | (simp; done) | (simp; omega))) | (with_reducible refine Blk.by (by assumption) ?_))); done) | ((repeat (first | (with_reducible exact Below.refl _ _) | (with_reducible refine below_drewN ?_ _) | (with_reducible refine Below.drew ?_) | (with_reducible refine below_al ?_ _) | (with_reducible refine below_on (by assumption) ?_) | ((with_reducible refine Below.setCell ?_ ?_ _); rotate_left; focus (first | omega | (simp; done) | (simp; omega))) | (with_reducible assumption))); done))) (first | (go_at_call_of 68 (Value.agg #[Value.slice e c.1.length ce, Value.slice e' c.2.length ce']); refine (HCC.out _ _ (HC3.out.by blwT)).mono ?_; rintro e5 w5 ⟨rfl, hb5⟩) | (go_at_call 68; refine (HCR.out _ _ (HR3.out.by blwT)).mono ?_; rintro e4 w4 ⟨rfl, hb4⟩))
      all_goals
        have kR5 : Blk w5 (w.heap.size + 1) #[.slice none 0 0, .slice none 0 0] 77 := blkT
        have kK5 : Blk w5 K #[.slice e c.1.length ce, .slice e' c.2.length ce'] 77 := blkT
        have hW5 : Below w3.heap.size w3 w5 := blwT
        have hbw5 := below_on hW5 hb3w
        have hs5 := hW5.size
        have HOF := Lib.hid (HOC.out.by hW5)
        have qR := kR5.cell
        have fR := kR5.free
        have lR := kR5.lt
        have qK5 := kK5.cell
        clear hb4 hb5
        go_wp2
        refine bodyPost_ret (v := .tuple #[.agg #[.slice e c.1.length ce, .slice e' c.2.length ce'], .int .i64 (k : Int)]) (by simp [results, Tryz.results39, go_sem, *]) rfl ⟨_, by rw [← HRES.out], ?_, blwT⟩
        have hres' := HRES.out
        rw [← hres']
        exact OwnPr.wide (OwnPr.past (Within.off _) (OwnPr.past (Within.off _) HOF.out (by omega)) (by omega)) (by omega) (by simp; omega)
    · have hd : decide (cntC (refS x c) ≤ cntC c) = false := decide_eq_false hle
      have HRES := Lib.hid (show refN x (63 - k) (refS x c) ((k : Int) + 1) = RES by rw [← hrn, refN_go hle])
      clear hcb hrn f1 f2 f3 f4 g1 g2 g3 g4 hbd hcr HF hfs
      generalize refS x c = RR at *
      generalize hK1 : cntC RR = K1 at *
      generalize cntC c = K2 at *
      go_wp2_with fail
      refine (HI.out _ _ _ (HN.out.by hb) HO.out.co).mono ?_
      rintro e2 w2 ⟨v2, rfl, hO2, hb2⟩
      have HO2 := Lib.hid hO2
      obtain ⟨b1, d1, b2, d2, rfl⟩ := hO2.co.sized
      have hs2 := hb2.size
      have lK := kK.lt
      have kA2 := Blk.by hb2 kA
      have kK2 := Blk.by hb2 kK
      have kR2 := Blk.by hb2 kR
      have hb2w := below_on hb2 hb
      have HC2 := Lib.hid (HO.out.by hb2)
      have qA2 := kA2.cell
      have qK2 := kK2.cell
      clear hO2 qA qK hb2 kA kK kR HO hb
      go_wp2_with fail
      obtain ⟨D, hD⟩ : ∃ D, w2.heap.size = D := ⟨_, rfl⟩
      obtain ⟨w3, hw3⟩ : ∃ z, z = w2.alloc (.cells #[.slice b1 RR.1.length d1, .slice b2 RR.2.length d2] 77) := ⟨_, rfl⟩
      have hal : Below w2.heap.size w2 w3 := by rw [hw3]; exact (Below.refl _ w2).alloc (Nat.le_refl _) _
      have kD3 : Blk w3 D #[.slice b1 RR.1.length d1, .slice b2 RR.2.length d2] 77 := by rw [hw3]; exact Blk.new _ hD.symm
      have hs3 : w3.heap.size = D + 1 := by rw [hw3]; simp [hD]
      have kA3 := Blk.by hal kA2
      have kK3 := Blk.by hal kK2
      have kR3 := Blk.by hal kR2
      have hb3w := below_on hal hb2w
      have HC3 := Lib.hid ((HC2.out.by hal).co)
      have HR3 := Lib.hid ((HO2.out.by hal).co)
      have HOC := Lib.hid (HC2.out.by hal)
      have HON := Lib.hid (HO2.out.by hal)
      rw [← hw3]
      (try rw [hD])
      (try rw [hD] at HON)
      clear hw3 hal kA2 kK2 kR2 qA2 qK2 hb2w HC2 HO2
      have hsz := hs3
      go_region_held3 ((fun w' => (Blk w' (D) #[.slice b1 RR.1.length d1, .slice b2 RR.2.length d2] 77 ∧ ∀ o, w'.cell? ⟨D, o, none⟩ = (#[.slice b1 RR.1.length d1, .slice b2 RR.2.length d2] : Array Value)[o]?) ∧ (Blk w' (K) #[.slice e c.1.length ce, .slice e' c.2.length ce'] 77 ∧ ∀ o, w'.cell? ⟨K, o, none⟩ = (#[.slice e c.1.length ce, .slice e' c.2.length ce'] : Array Value)[o]?) ∧ Below w.heap.size w w')) (((try (obtain ⟨⟨hS0, _⟩, ⟨hS1, _⟩, hSB⟩ := hHeld)); refine ⟨Blk.both ?_, Blk.both ?_, ?_⟩ <;> first | ((repeat (first | (with_reducible assumption) | (with_reducible refine Blk.drewN ?_ _) | (with_reducible refine Blk.drew ?_) | ((with_reducible refine Blk.new _ ?_); focus (first | omega | (simp; done) | (simp; omega))) | (with_reducible refine Blk.past ?_ _) | ((with_reducible refine Blk.apart ?_ _ _ _ ?_); rotate_left; focus (first | omega | (simp; done) | (simp; omega))) | (with_reducible refine Blk.by (by assumption) ?_))); done) | ((repeat (first | (with_reducible exact Below.refl _ _) | (with_reducible refine below_drewN ?_ _) | (with_reducible refine Below.drew ?_) | (with_reducible refine below_al ?_ _) | (with_reducible refine below_on (by assumption) ?_) | ((with_reducible refine Below.setCell ?_ ?_ _); rotate_left; focus (first | omega | (simp; done) | (simp; omega))) | (with_reducible assumption))); done))) (first | (go_at_call_of 68 (Value.agg #[Value.slice e c.1.length ce, Value.slice e' c.2.length ce']); refine (HCC.out _ _ (HC3.out.by blwT)).mono ?_; rintro e5 w5 ⟨rfl, hb5⟩) | (go_at_call 68; refine (HCR.out _ _ (HR3.out.by blwT)).mono ?_; rintro e4 w4 ⟨rfl, hb4⟩))
      all_goals
        have kA5 : Blk w5 w.heap.size #[.int .i64 x.nets, .slice a x.ds.length ca, .slice a' x.ps.length ca'] 27 := blkT
        have kR5 : Blk w5 (w.heap.size + 1) #[.slice none 0 0, .slice none 0 0] 77 := blkT
        have kK5 : Blk w5 K #[.slice e c.1.length ce, .slice e' c.2.length ce'] 77 := blkT
        have kD5 : Blk w5 D #[.slice b1 RR.1.length d1, .slice b2 RR.2.length d2] 77 := blkT
        have hW5 : Below w3.heap.size w3 w5 := blwT
        have hbw5 := below_on hW5 hb3w
        have hs5 := hW5.size
        have HOF := Lib.hid (HON.out.by hW5)
        have qD := kD5.cell
        have qK5 := kK5.cell
        have fK := kK5.free
        have lK5 := kK5.lt
        have hKA : w.heap.size + 1 < K := hKw
        clear hb4 hb5
        go_wp2
        refine ⟨⟨RR, k + 1, wr.heap.size, D, b1, d1, b2, d2, by go_num, by omega, Lib.hid ⟨HCR2.out, ?_, ?_⟩, kK5.set2, Lib.hid (OwnPr.past (Within.off _) (OwnPr.past (Within.off _) HOF.out (.inr (by omega))) (.inr (by omega))), ⟨by omega, by omega, by simp; omega, by omega⟩, (kA5.apart K _ _ (by omega)).apart K _ _ (by omega), (kR5.apart K _ _ (by omega)).apart K _ _ (by omega), (hbw5.setCell (by simp; omega) _).setCell (by simp; omega) _⟩, by simp [intOf]; omega⟩
        · rw [HF1.out]
          have := HRES.out
          rw [show ((k + 1 : Nat) : Int) = (k : Int) + 1 by omega]
          exact this
        · omega
theorem nmP {zs : List Int} {n : Int} (hp : permB zs n = true) {i : Int} (h0 : 0 ≤ i) (h1 : i < n) : zs[i.toNat]? = some (nmOf zs i) ∧ 0 ≤ nmOf zs i ∧ nmOf zs i < n := by
  obtain ⟨a1, a2, a3⟩ := permB_iff.1 hp
  have e : zs[i.toNat]? = some (zs[i.toNat]'(by omega)) := List.getElem?_eq_getElem (by omega)
  have e2 : nmOf zs i = zs[i.toNat]'(by omega) := by unfold nmOf; rw [List.getD_eq_getElem?_getD, e]; rfl
  rw [e2]
  exact ⟨e, a3 _ (List.getElem_mem _)⟩
theorem nmP_inj {zs : List Int} {n : Int} (hp : permB zs n = true) {i j : Int} (hi : 0 ≤ i ∧ i < n) (hj : 0 ≤ j ∧ j < n) (h : nmOf zs i = nmOf zs j) : i = j := by
  have a := (nmP hp hi.1 hi.2).1
  have b := (nmP hp hj.1 hj.2).1
  rw [h] at a
  rcases Nat.lt_trichotomy i.toNat j.toNat with q | q | q
  · have := permB_dup (n := n) q a b; rw [hp] at this; cases this
  · omega
  · have := permB_dup (n := n) q b a; rw [hp] at this; cases this
theorem nmP_onto {zs : List Int} {n : Int} (hp : permB zs n = true) {k : Int} (h0 : 0 ≤ k) (h1 : k < n) : ∃ i : Nat, (i : Int) < n ∧ nmOf zs i = k := by
  obtain ⟨i, hi⟩ := permB_has hp k h0 h1
  have hl := (List.getElem?_eq_some_iff.1 hi).1
  have := (permB_iff.1 hp).1
  exact ⟨i, by omega, by unfold nmOf; rw [Int.toNat_natCast, List.getD_eq_getElem?_getD, hi]; rfl⟩
theorem coB_lens {x : Nl} {c : List Int × List Int} (h : coB x c = true) : (c.1.length : Int) = x.nets ∧ c.2.length = x.ds.length ∧ 0 ≤ x.nets ∧ x.nets ≤ 24 := by
  obtain ⟨h1, h2, _⟩ := coB_nets h
  obtain ⟨_, _, h3, _⟩ := coB_facts h
  exact ⟨h1, h3, h2.1, h2.2⟩
theorem rankOf_mem {ls ls' : List (List Int)} (h : ∀ z, z ∈ ls ↔ z ∈ ls') (x : List Int) : rankOf ls x = rankOf ls' x := by
  rw [rankOf_fsts, rankOf_fsts]
  exact (perm_of_mem _ _ (nodup_fsts ls) (nodup_fsts ls') (fun z => by rw [mem_fsts, mem_fsts]; exact h z)).countP_eq _
theorem nm_range {f : Nat → Int} {n i : Nat} (h : i < n) : nmOf ((List.range n).map f) (i : Int) = f i := by
  unfold nmOf; rw [Int.toNat_natCast]; simp [List.getD_eq_getElem?_getD, h]
theorem rank_eqv {zs : List Int} {n : Nat} (hp : permB zs (n : Int) = true) (kx ky : Nat → List Int) (h : ∀ i, i < n → kx i = ky (nmOf zs (i : Int)).toNat) (i : Nat) (hi : i < n) :
    nmOf (rankS ((List.range n).map kx)) (i : Int) = nmOf (rankS ((List.range n).map ky)) (nmOf zs (i : Int)) := by
  have hm : ∀ z, z ∈ (List.range n).map kx ↔ z ∈ (List.range n).map ky := by
    intro z
    simp only [List.mem_map, List.mem_range]
    constructor
    · rintro ⟨j, hj, rfl⟩
      have := (nmP hp (i := (j : Int)) (by omega) (by omega)).2
      exact ⟨(nmOf zs (j : Int)).toNat, by omega, (h j hj).symm⟩
    · rintro ⟨j, hj, rfl⟩
      obtain ⟨k, hk, e⟩ := nmP_onto hp (k := (j : Int)) (by omega) (by omega)
      exact ⟨k, by omega, by rw [h k (by omega), e]; rfl⟩
  have hz := (nmP hp (i := (i : Int)) (by omega) (by omega)).2
  obtain ⟨z, hze⟩ : ∃ z : Nat, nmOf zs (i : Int) = (z : Int) := ⟨(nmOf zs (i : Int)).toNat, by omega⟩
  have hi2 := h i hi
  rw [hze] at hi2 hz ⊢
  rw [Int.toNat_natCast] at hi2
  unfold rankS
  rw [List.map_map, List.map_map, nm_range hi, nm_range (by omega)]
  show ((rankOf _ (kx i) : Nat) : Int) = ((rankOf _ (ky z) : Nat) : Int)
  rw [hi2, rankOf_mem hm]
def rep (l : List Int) (k : Nat) : List Int := (List.replicate k l).flatten
theorem rep_add (l : List Int) (a b : Nat) : rep l (a + b) = rep l a ++ rep l b := by
  unfold rep; rw [← List.replicate_append_replicate, List.flatten_append]
def sumN (h : Nat → Nat) : Nat → Nat
  | 0 => 0
  | k + 1 => sumN h k + h k
theorem flat_rep (l : List Int) (h : Nat → Nat) (n : Nat) : (List.range n).flatMap (fun j => rep l (h j)) = rep l (sumN h n) := by
  induction n with
  | zero => rfl
  | succ n ih => rw [flat_succ, ih]; exact (rep_add _ _ _).symm
theorem sumN_list (h : Nat → Nat) (n : Nat) : sumN h n = ((List.range n).map h).sum := by
  induction n with
  | zero => rfl
  | succ n ih => rw [List.range_succ, List.map_append, List.sum_append, ← ih]; simp [sumN]
theorem sumN_congr {h g : Nat → Nat} {n : Nat} (e : ∀ j, j < n → h j = g j) : sumN h n = sumN g n := by
  induction n with
  | zero => rfl
  | succ n ih => show _ + _ = _ + _; rw [ih (fun j hj => e j (by omega)), e n (by omega)]
theorem sumN_perm {zs : List Int} {n : Nat} (hp : permB zs (n : Int) = true) (g : Nat → Nat) : sumN (fun j => g (nmOf zs (j : Int)).toNat) n = sumN g n := by
  have hl := (permB_iff.1 hp).1
  rw [sumN_list, sumN_list]
  have e1 : (List.range n).map (fun j : Nat => g (nmOf zs (j : Int)).toNat) = zs.map (fun z => g z.toNat) := by
    apply List.ext_getElem?
    intro j
    rw [List.getElem?_map, List.getElem?_map]
    by_cases hj : j < n
    · rw [List.getElem?_range hj]
      have := (nmP hp (i := (j : Int)) (by omega) (by omega)).1
      rw [Int.toNat_natCast] at this
      rw [this]; rfl
    · rw [List.getElem?_eq_none (by simp; omega), List.getElem?_eq_none (by omega)]; rfl
  have e2 : (List.range n).map g = (iota n).map (fun z => g z.toNat) := by
    unfold iota; rw [List.map_map]; exact List.map_congr_left (fun j _ => by simp)
  rw [e1, e2]
  have hn : zs.length = n := by omega
  have := (permB_perm hp)
  rw [hn] at this
  exact (this.map _).sum_nat
def hits (ci kind : Int) (pins : List Int) (net color role : Int) : Nat := sumN (fun k => if pHit ci kind pins net color role k = true then 1 else 0) pins.length
theorem pTo_rep (ci kind : Int) (pins : List Int) (net color role : Int) : pTo ci kind pins net color role pins.length = rep [color, role] (hits ci kind pins net color role) := by
  unfold pTo hits
  rw [← flat_rep]
  congr 1
  funext k
  split <;> rfl
theorem dTo_rep (ds : List Dv) (cs : List Int) (net color role : Int) : dTo ds cs net color role ds.length = rep [color, role] (sumN (fun j => hits (nmOf cs (j : Int)) (dAt ds j).kind (dAt ds j).pins net color role) ds.length) := by
  unfold dTo
  rw [← flat_rep]
  congr 1
  funext j
  exact pTo_rep _ _ _ _ _ _
def DvEqv (p : List Int) (d e : Dv) : Prop :=
  e.kind = d.kind ∧ e.wd = d.wd ∧ e.len = d.len ∧
  (e.pins = d.pins.map (nmOf p) ∨
   (∃ a b, d.pins = [a, b] ∧ e.pins = [nmOf p b, nmOf p a]) ∨ ∃ g a b, d.pins = [g, a, b] ∧ e.pins = [nmOf p g, nmOf p b, nmOf p a])
structure NlIso (x y : Nl) (p q : List Int) : Prop where
  pp : permB p x.nets = true
  pq : permB q (x.ds.length : Int) = true
  nets : y.nets = x.nets
  len : y.ds.length = x.ds.length
  dev : ∀ (i : Nat) (d : Dv), x.ds[i]? = some d → ∃ e, y.ds[(nmOf q (i : Int)).toNat]? = some e ∧ DvEqv p d e
  plen : y.ps.length = x.ps.length
  port : ∀ (i : Nat) (a : Pt), x.ps[i]? = some a → ∃ b, y.ps[i]? = some b ∧ b.name = a.name ∧ b.net = nmOf p a.net
def ColEqv (x : Nl) (p q : List Int) (c d : List Int × List Int) : Prop :=
  (∀ i : Nat, (i : Int) < x.nets → nmOf c.1 (i : Int) = nmOf d.1 (nmOf p (i : Int))) ∧ ∀ i : Nat, i < x.ds.length → nmOf c.2 (i : Int) = nmOf d.2 (nmOf q (i : Int))
theorem pinsOf_two {d : Dv} {nets : Int} (h : dvB nets d = true) : (d.kind = 2 ∧ ∃ a b, d.pins = [a, b]) ∨ (¬ d.kind = 2 ∧ ∃ g a b, d.pins = [g, a, b]) := by
  obtain ⟨h1, h2, _⟩ := dvB_all h
  by_cases hk : d.kind = 2
  · left
    have : d.pins.length = 2 := by rw [h2, hk]; rfl
    match e : d.pins with
    | [a, b] => exact ⟨hk, a, b, rfl⟩
    | [] => rw [e] at this; cases this
    | [_] => rw [e] at this; cases this
    | _ :: _ :: _ :: _ => rw [e] at this; simp at this
  · right
    have : d.pins.length = 3 := by rw [h2]; unfold pinsOf; rw [if_neg (by omega)]
    match e : d.pins with
    | [g, a, b] => exact ⟨hk, g, a, b, rfl⟩
    | [] => rw [e] at this; cases this
    | [_] => rw [e] at this; cases this
    | [_, _] => rw [e] at this; cases this
    | _ :: _ :: _ :: _ :: _ => rw [e] at this; simp at this
theorem dvB_in {nets : Int} {d : Dv} (h : dvB nets d = true) {p : Int} (hp : p ∈ d.pins) : 0 ≤ p ∧ p < nets := (dvB_pins h).2.2 p hp
theorem hits_eqv {x : Nl} {p : List Int} (hp : permB p x.nets = true) {d e : Dv} (hd : dvB x.nets d = true) (h : DvEqv p d e) (ci net color role : Int) (h0 : 0 ≤ net) (h1 : net < x.nets) :
    hits ci d.kind d.pins net color role = hits ci e.kind e.pins (nmOf p net) color role := by
  obtain ⟨k1, k2, k3, k4⟩ := h
  have inj : ∀ a, a ∈ d.pins → (nmOf p a = nmOf p net ↔ a = net) := fun a ha =>
    ⟨fun e => nmP_inj hp (dvB_in hd ha) ⟨h0, h1⟩ e, fun e => by rw [e]⟩
  rw [k1]
  rcases pinsOf_two hd with ⟨hk, a, b, hpn⟩ | ⟨hk, g, a, b, hpn⟩
  · have ia := inj a (by rw [hpn]; simp)
    have ib := inj b (by rw [hpn]; simp)
    have k4' : e.pins = [nmOf p a, nmOf p b] ∨ e.pins = [nmOf p b, nmOf p a] := by
      rcases k4 with q | ⟨a', b', q1, q2⟩ | ⟨g', a', b', q1, q2⟩
      · left; rw [q, hpn]; rfl
      · right; rw [hpn] at q1; injection q1 with q1 q3; injection q3 with q3; subst q1 q3; exact q2
      · rw [hpn] at q1; simp at q1
    rw [hpn, hk]
    rcases k4' with q | q <;> rw [q] <;> simp only [hits, List.length_cons, List.length_nil, sumN, pHit, roleOf, List.getD_cons_zero, List.getD_cons_succ, if_true, ia, ib]
    omega
  · have ig := inj g (by rw [hpn]; simp)
    have ia := inj a (by rw [hpn]; simp)
    have ib := inj b (by rw [hpn]; simp)
    have k4' : e.pins = [nmOf p g, nmOf p a, nmOf p b] ∨ e.pins = [nmOf p g, nmOf p b, nmOf p a] := by
      rcases k4 with q | ⟨a', b', q1, q2⟩ | ⟨g', a', b', q1, q2⟩
      · left; rw [q, hpn]; rfl
      · rw [hpn] at q1; simp at q1
      · right; rw [hpn] at q1; injection q1 with q0 q1; injection q1 with q1 q3; injection q3 with q3; subst q0 q1 q3; exact q2
    rw [hpn]
    rcases k4' with q | q <;> rw [q] <;> simp only [hits, List.length_cons, List.length_nil, sumN, pHit, roleOf, List.getD_cons_zero, List.getD_cons_succ, if_neg hk, ig, ia, ib, show min (((0 + 1 + 1 : Nat)) : Int) 1 = 1 from rfl, show min (((0 + 1 : Nat)) : Int) 1 = 1 from rfl, show min (((1 : Nat)) : Int) 1 = 1 from rfl, show min (((2 : Nat)) : Int) 1 = 1 from rfl]
    omega
theorem dAt_some {ds : List Dv} {i : Nat} {d : Dv} (h : ds[i]? = some d) : dAt ds i = d := by unfold dAt; rw [List.getD_eq_getElem?_getD, h]; rfl
section
variable {x y : Nl} {p q : List Int} (H : NlIso x y p q) (hx : nlB x = true)
include H hx
theorem NlIso.at_ (i : Nat) (hi : i < x.ds.length) : DvEqv p (dAt x.ds i) (dAt y.ds (nmOf q (i : Int)).toNat) ∧ dvB x.nets (dAt x.ds i) = true := by
  have e : x.ds[i]? = some x.ds[i] := List.getElem?_eq_getElem hi
  obtain ⟨f, h1, h2⟩ := H.dev i _ e
  rw [dAt_some e, dAt_some h1]
  exact ⟨h2, (nlB_facts hx).2.2.2.1 _ (List.getElem_mem hi)⟩
theorem NlIso.sig {c d : List Int × List Int} (hc : ColEqv x p q c d) (net : Nat) (hn : (net : Int) < x.nets) : netL' x c (net : Int) = netL' y d (nmOf p (net : Int)) := by
  unfold netL'
  rw [hc.1 net hn]
  congr 1
  unfold cTo
  congr 1
  funext color
  unfold rTo
  congr 1
  funext role
  rw [dTo_rep, dTo_rep, H.len]
  congr 1
  rw [← sumN_perm H.pq (fun j => hits (nmOf d.2 (j : Int)) (dAt y.ds j).kind (dAt y.ds j).pins (nmOf p (net : Int)) color role)]
  refine sumN_congr (fun j hj => ?_)
  obtain ⟨h1, h2⟩ := H.at_ hx j hj
  have hq := (nmP H.pq (i := (j : Int)) (by omega) (by omega)).2
  rw [hits_eqv H.pp h2 h1 _ _ _ _ (by omega) hn, hc.2 j hj, Int.toNat_of_nonneg hq.1]
theorem NlIso.dsig {c d : List Int × List Int} (hc : ColEqv x p q c d) (i : Nat) (hi : i < x.ds.length) : dsgL (dAt x.ds i) (nmOf c.2 (i : Int)) c.1 = dsgL (dAt y.ds (nmOf q (i : Int)).toNat) (nmOf d.2 (nmOf q (i : Int))) d.1 := by
  obtain ⟨⟨k1, k2, k3, k4⟩, h2⟩ := H.at_ hx i hi
  have nc : ∀ a, a ∈ (dAt x.ds i).pins → nmOf c.1 a = nmOf d.1 (nmOf p a) := fun a ha => by
    have := dvB_in h2 ha
    have q := hc.1 a.toNat (by omega)
    rwa [Int.toNat_of_nonneg this.1] at q
  rw [← hc.2 i hi]
  generalize dAt x.ds i = D at *
  generalize dAt y.ds (nmOf q (i : Int)).toNat = E at *
  rcases pinsOf_two h2 with ⟨hk, a, b, hpn⟩ | ⟨hk, g, a, b, hpn⟩
  · have ia := nc a (by rw [hpn]; simp)
    have ib := nc b (by rw [hpn]; simp)
    rw [dsgL_r hk hpn]
    rcases k4 with q | ⟨a', b', q1, q2⟩ | ⟨g', a', b', q1, q2⟩
    · rw [dsgL_r (by rw [k1]; exact hk) (by rw [q, hpn]; rfl), ia, ib]
    · rw [hpn] at q1; injection q1 with q1 q3; injection q3 with q3; subst q1 q3
      rw [dsgL_r (by rw [k1]; exact hk) q2, ia, ib]
      unfold dsgT; rw [Int.min_comm, Int.max_comm]
    · rw [hpn] at q1; simp at q1
  · have ig := nc g (by rw [hpn]; simp)
    have ia := nc a (by rw [hpn]; simp)
    have ib := nc b (by rw [hpn]; simp)
    rw [dsgL_m hk hpn]
    rcases k4 with q | ⟨a', b', q1, q2⟩ | ⟨g', a', b', q1, q2⟩
    · rw [dsgL_m (by rw [k1]; exact hk) (by rw [q, hpn]; rfl), ig, ia, ib]
    · rw [hpn] at q1; simp at q1
    · rw [hpn] at q1; injection q1 with q0 q1; injection q1 with q1 q3; injection q3 with q3; subst q0 q1 q3
      rw [dsgL_m (by rw [k1]; exact hk) q2, ig, ia, ib]
      unfold dsgT; rw [Int.min_comm, Int.max_comm]
theorem NlIso.ref {c d : List Int × List Int} (hc : ColEqv x p q c d) (hl : (c.1.length : Int) = x.nets) (hl2 : (d.1.length : Int) = x.nets) : ColEqv x p q (refS x c) (refS y d) := by
  obtain ⟨n, hn⟩ : ∃ n : Nat, x.nets = n := ⟨x.nets.toNat, by omega⟩
  have e1 : c.1.length = n := by omega
  have e2 : d.1.length = n := by omega
  constructor
  · intro i hi
    unfold refS
    dsimp only
    rw [e1, e2]
    refine rank_eqv (by rw [← hn]; exact H.pp) _ _ (fun j hj => ?_) i (by omega)
    have hz := (nmP H.pp (i := (j : Int)) (by omega) (by omega)).2
    rw [Int.toNat_of_nonneg hz.1]
    exact H.sig hx hc j (by omega)
  · intro i hi
    unfold refS dsgLs
    dsimp only
    rw [H.len]
    refine rank_eqv H.pq _ _ (fun j hj => ?_) i hi
    have hz := (nmP H.pq (i := (j : Int)) (by omega) (by omega)).2
    rw [Int.toNat_of_nonneg hz.1]
    exact H.dsig hx hc j hj
end
theorem difI_mem {zs ys : List Int} (h : ∀ z, z ∈ zs ↔ z ∈ ys) : difI zs = difI ys := by
  unfold difI
  refine (perm_of_mem _ _ (nodup_fstTo _ (Nat.le_refl _)) (nodup_fstTo _ (Nat.le_refl _)) (fun z => ?_)).length_eq
  rw [mem_fstTo _ (Nat.le_refl _), mem_fstTo _ (Nat.le_refl _), List.take_length, List.take_length]
  exact h z
theorem dif_eqv {zs : List Int} {n : Nat} (hp : permB zs (n : Int) = true) {a b : List Int} (ha : a.length = n) (hb : b.length = n) (h : ∀ i : Nat, i < n → nmOf a (i : Int) = nmOf b (nmOf zs (i : Int))) : difI a = difI b := by
  refine difI_mem (fun z => ?_)
  have at_ : ∀ (l : List Int) (i : Nat), i < l.length → l[i]? = some (nmOf l (i : Int)) := fun l i hi => by
    unfold nmOf; rw [Int.toNat_natCast, List.getD_eq_getElem?_getD, List.getElem?_eq_getElem hi]; rfl
  constructor
  · intro hz
    obtain ⟨i, hi, e⟩ := List.mem_iff_getElem.1 hz
    have e1 := at_ a i hi
    rw [List.getElem?_eq_getElem hi, e] at e1
    rw [Option.some.inj e1, h i (by omega)]
    have hq := (nmP hp (i := (i : Int)) (by omega) (by omega)).2
    have e2 := at_ b (nmOf zs (i : Int)).toNat (by omega)
    rw [Int.toNat_of_nonneg hq.1] at e2
    exact List.mem_of_getElem? e2
  · intro hz
    obtain ⟨j, hj, e⟩ := List.mem_iff_getElem.1 hz
    have e1 := at_ b j hj
    rw [List.getElem?_eq_getElem hj, e] at e1
    obtain ⟨k, hk, ek⟩ := nmP_onto hp (k := (j : Int)) (by omega) (by omega)
    have e2 := at_ a k (by omega)
    rw [h k (by omega), ek, ← Option.some.inj e1] at e2
    exact List.mem_of_getElem? e2
section
variable {x y : Nl} {p q : List Int} (H : NlIso x y p q)
include H
theorem NlIso.cnt {c d : List Int × List Int} (hcx : coB x c = true) (hdy : coB y d = true) (hc : ColEqv x p q c d) : cntC c = cntC d := by
  obtain ⟨n, hn⟩ : ∃ n : Nat, x.nets = n := ⟨x.nets.toNat, by have := (coB_facts hcx); have := (permB_iff.1 H.pp).1; omega⟩
  obtain ⟨f1, f2, f3, f4⟩ := coB_lens hcx
  obtain ⟨g1, g2, g3, g4⟩ := coB_lens hdy
  have e1 : difI c.1 = difI d.1 := dif_eqv (n := n) (by rw [← hn]; exact H.pp) (by omega) (by have := H.nets; omega) (fun i hi => hc.1 i (by omega))
  have e2 : difI c.2 = difI d.2 := dif_eqv (n := x.ds.length) H.pq (by omega) (by have := H.len; omega) hc.2
  unfold cntC
  rw [e1, e2]
theorem NlIso.refN (hx : nlB x = true) : ∀ (f : Nat) (c d : List Int × List Int) (s : Int), coB x c = true → coB y d = true → ColEqv x p q c d → (refN x f c s).2 = (refN y f d s).2 ∧ ColEqv x p q (refN x f c s).1 (refN y f d s).1
  | 0, c, d, s, _, _, h => ⟨rfl, h⟩
  | f + 1, c, d, s, hc, hd, h => by
    obtain ⟨f1, f2, f3, f4⟩ := coB_lens hc
    obtain ⟨g1, g2, g3, g4⟩ := coB_lens hd
    have hr := H.ref hx h f1 (by rw [g1]; exact H.nets)
    have c1 := coB_ref hc
    have d1 := coB_ref hd
    have e1 := H.cnt hc hd h
    have e2 := H.cnt c1 d1 hr
    by_cases e : cntC (refS x c) ≤ cntC c
    · rw [refN_stop e, refN_stop (by rw [← e1, ← e2]; exact e)]
      exact ⟨rfl, h⟩
    · rw [refN_go e, refN_go (by rw [← e1, ← e2]; exact e)]
      exact NlIso.refN hx f _ _ _ c1 d1 hr
theorem NlIso.ini (hx : nlB x = true) : ColEqv x p q (iniS x) (iniS y) := by
  obtain ⟨⟨n0, n1⟩, hl, hp, hd, hpt⟩ := nlB_facts hx
  obtain ⟨n, hn⟩ : ∃ n : Nat, x.nets = n := ⟨x.nets.toNat, by omega⟩
  constructor
  · intro i hi
    unfold iniS netL
    dsimp only
    rw [H.nets, hn, Int.toNat_natCast]
    refine rank_eqv (by rw [← hn]; exact H.pp) _ _ (fun j hj => ?_) i (by omega)
    have hz := (nmP H.pp (i := (j : Int)) (by omega) (by omega)).2
    rw [Int.toNat_of_nonneg hz.1, H.plen]
    unfold portTo
    congr 1
    refine List.filter_congr (fun k hk => ?_)
    rw [List.mem_range] at hk
    have e : x.ps[k]? = some x.ps[k] := List.getElem?_eq_getElem hk
    obtain ⟨b, hb, _, hbn⟩ := H.port k _ e
    rw [e, hb]
    dsimp only
    rw [hbn]
    have hpk := hpt k hk
    have hin : 0 ≤ x.ps[k].net ∧ x.ps[k].net < x.nets := by
      unfold ptOk at hpk
      rw [e] at hpk
      simp only [Bool.and_eq_true] at hpk
      have := inB_iff.1 hpk.2.1
      omega
    by_cases hc : x.ps[k].net = (j : Int)
    · rw [hc]; simp
    · have : ¬ nmOf p x.ps[k].net = nmOf p (j : Int) := fun e => hc (nmP_inj H.pp hin (by omega) e)
      simp [hc, this]
  · intro i hi
    unfold iniS
    dsimp only
    have form : ∀ ds : List Dv, devL ds = (List.range ds.length).map (fun k => [(dAt ds k).kind, (dAt ds k).wd, (dAt ds k).len]) := fun ds => by
      apply List.ext_getElem?
      intro k
      unfold devL
      rw [List.getElem?_map, List.getElem?_map]
      by_cases hk : k < ds.length
      · rw [List.getElem?_range hk, List.getElem?_eq_getElem hk]
        show some _ = some _
        dsimp only
        rw [dAt_some (List.getElem?_eq_getElem hk)]
      · rw [List.getElem?_eq_none (by omega), List.getElem?_eq_none (by simp; omega)]; rfl
    rw [form, form, H.len]
    refine rank_eqv H.pq _ _ (fun j hj => ?_) i hi
    obtain ⟨⟨k1, k2, k3, _⟩, _⟩ := H.at_ hx j hj
    rw [k1, k2, k3]
theorem NlIso.net (hx : nlB x = true) (hy : nlB y = true) : (refNet x).2 = (refNet y).2 ∧ ColEqv x p q (refNet x).1 (refNet y).1 := by
  unfold refNet
  rw [if_pos hx, if_pos hy]
  exact H.refN hx 64 _ _ 0 (coB_ini hx) (coB_ini hy) (H.ini hx)
end
theorem ap_valid {x : Nl} {m : List Int × List Int} (hx : nlB x = true) (h1 : permB m.1 x.nets = true) (h2 : permB m.2 (x.ds.length : Int) = true) : nlB ⟨x.nets, ordD m.2 (x.ds.map (renD m.1)), x.ps.map (renP m.1)⟩ = true := by
  obtain ⟨⟨n0, n1⟩, hl, hp, hd, hpt⟩ := nlB_facts hx
  have hx' := hx
  simp only [nlB, Bool.and_eq_true, decide_eq_true_eq, List.all_eq_true] at hx'
  have hl2 := (permB_iff.1 h2).1
  simp only [nlB, Bool.and_eq_true, decide_eq_true_eq, List.all_eq_true, ptsB, List.mem_range]
  refine ⟨hx'.1, by rw [length_ordD]; omega, by simp; omega, fun d hdm => ?_, fun i hi => ?_⟩
  · obtain ⟨k, hk, e⟩ := List.mem_iff_getElem.1 hdm
    obtain ⟨i, _, _, hi⟩ := ordD_inv (zs := m.2) (ds := x.ds.map (renD m.1)) (by rw [List.length_map]; exact h2) k d (by rw [List.getElem?_eq_getElem hk, e])
    rw [List.getElem?_map] at hi
    cases hxd : x.ds[i]? with
    | none => rw [hxd] at hi; cases hi
    | some d0 =>
      rw [hxd] at hi
      have hi := Option.some.inj hi
      subst hi
      obtain ⟨a1, a2, a3, a4, a5, a6⟩ := dvB_all (hd d0 (List.mem_of_getElem? hxd))
      unfold dvB renD
      simp only [Bool.and_eq_true, decide_eq_true_eq, List.all_eq_true]
      refine ⟨a1, by rw [List.length_map]; exact a2, a3, a4, fun p hpm => ?_, by simpa using a6⟩
      obtain ⟨q, hq, rfl⟩ := List.mem_map.1 hpm
      have q0 := inB_iff.1 (a5 q hq)
      have := (nmP h1 (i := q) (by omega) (by omega)).2
      exact inB_iff.2 (by omega)
  · rw [List.length_map] at hi
    have hpk := hpt i hi
    unfold ptOk at hpk ⊢
    rw [List.getElem?_map, List.getElem?_eq_getElem hi] at *
    simp only [Option.map_some, Bool.and_eq_true] at hpk ⊢
    obtain ⟨b1, b2, b3⟩ := hpk
    have q0 := inB_iff.1 b2
    have := (nmP h1 (i := x.ps[i].net) (by omega) (by omega)).2
    refine ⟨b1, inB_iff.2 (show 0 ≤ nmOf m.1 x.ps[i].net ∧ nmOf m.1 x.ps[i].net ≤ x.nets - 1 by omega), ?_⟩
    cases i with
    | zero => rfl
    | succ j =>
      dsimp only at b3 ⊢
      rw [List.getElem?_map]
      cases e : x.ps[j]? with
      | none => rfl
      | some z => rw [e] at b3; exact b3
theorem ap_iso {x : Nl} {m : List Int × List Int} (hx : nlB x = true) (h1 : permB m.1 x.nets = true) (h2 : permB m.2 (x.ds.length : Int) = true) : NlIso x ⟨x.nets, ordD m.2 (x.ds.map (renD m.1)), x.ps.map (renP m.1)⟩ m.1 m.2 where
  pp := h1
  pq := h2
  nets := rfl
  len := by
    have := (permB_iff.1 h2).1
    show (ordD m.2 _).length = _
    rw [length_ordD]; omega
  dev := fun i d hd => by
    have hi := (List.getElem?_eq_some_iff.1 hd).1
    have hz := (nmP h2 (i := (i : Int)) (by omega) (by omega)).1
    rw [Int.toNat_natCast] at hz
    exact ⟨renD m.1 d, ordD_get (by rw [List.length_map]; exact h2) i _ _ hz (by rw [List.getElem?_map, hd]; rfl), rfl, rfl, rfl, .inl rfl⟩
  plen := by simp
  port := fun i a ha => ⟨renP m.1 a, by show (x.ps.map (renP m.1))[i]? = _; rw [List.getElem?_map, ha]; rfl, rfl, rfl⟩
/- What FnColorsInvariant wants of the plain part. -/
theorem refN_nn (x : Nl) : ∀ (f : Nat) (c : List Int × List Int) (s : Int), s ≤ (refN x f c s).2
  | 0, c, s => Int.le_refl _
  | f + 1, c, s => by
    by_cases e : cntC (refS x c) ≤ cntC c
    · rw [refN_stop e]; exact Int.le_refl _
    · rw [refN_go e]
      have := refN_nn x f (refS x c) (s + 1)
      omega
theorem refNet_ok {x : Nl} (hx : nlB x = true) : 0 ≤ (refNet x).2 ∧ coB x (refNet x).1 = true := by
  unfold refNet
  rw [if_pos hx]
  exact ⟨refN_nn x 64 _ 0, coB_refN 64 _ 0 (coB_ini hx)⟩
theorem ap_ports {x : Nl} {z : List Int × List Int} (hx : nlB x = true) (h1 : permB z.1 x.nets = true) (hok : ∀ p ∈ x.ps, p.ok) : ∀ p ∈ x.ps.map (renP z.1), p.ok := by
  obtain ⟨⟨n0, n1⟩, hl, hp, hd, hpt⟩ := nlB_facts hx
  intro p hpm
  obtain ⟨a, ha, rfl⟩ := List.mem_map.1 hpm
  obtain ⟨k, hk, e⟩ := List.mem_iff_getElem.1 ha
  have hpk := hpt k hk
  unfold ptOk at hpk
  rw [List.getElem?_eq_getElem hk, e] at hpk
  simp only [Bool.and_eq_true] at hpk
  have q0 := inB_iff.1 hpk.2.1
  have := (nmP h1 (i := a.net) (by omega) (by omega)).2
  exact ⟨(hok a ha).1, show -9223372036854775808 ≤ nmOf z.1 a.net ∧ nmOf z.1 a.net ≤ 9223372036854775807 by omega⟩
theorem inv_facts {x : Nl} {z : List Int × List Int} (hx : nlB x = true) (h1 : permB z.1 x.nets = true) (h2 : permB z.2 (x.ds.length : Int) = true) (hok : ∀ p ∈ x.ps, p.ok) :
    apC x z = 0 ∧ (refNet (apR x z)).2 = (refNet x).2 ∧ 0 ≤ (refNet x).2 ∧ coB x (refNet x).1 = true ∧ coB (apR x z) (refNet (apR x z)).1 = true ∧
    ((refNet x).1.1.length = z.1.length ∧ (refNet (apR x z)).1.1.length = z.1.length ∧ (refNet x).1.2.length = z.2.length ∧ (refNet (apR x z)).1.2.length = z.2.length) ∧
    (∀ i : Nat, i < z.1.length → 0 ≤ nmOf z.1 (i : Int) ∧ nmOf z.1 (i : Int) < (z.1.length : Int) ∧ nmOf (refNet x).1.1 (i : Int) = nmOf (refNet (apR x z)).1.1 (nmOf z.1 (i : Int))) ∧
    (∀ i : Nat, i < z.2.length → 0 ≤ nmOf z.2 (i : Int) ∧ nmOf z.2 (i : Int) < (z.2.length : Int) ∧ nmOf (refNet x).1.2 (i : Int) = nmOf (refNet (apR x z)).1.2 (nmOf z.2 (i : Int))) ∧
    (∀ p ∈ (apR x z).ps, p.ok) ∧ Fits (apR x z).nets := by
  have e : apR x z = ⟨x.nets, ordD z.2 (x.ds.map (renD z.1)), x.ps.map (renP z.1)⟩ := by unfold apR; rw [if_pos hx, if_pos ⟨h1, h2⟩]
  have ec : apC x z = 0 := by unfold apC; rw [if_pos hx, if_pos ⟨h1, h2⟩]
  have hy := ap_valid hx h1 h2
  have hi := ap_iso hx h1 h2
  have hn := hi.net hx hy
  have hpo := ap_ports hx h1 hok
  obtain ⟨⟨n0, n1⟩, _⟩ := nlB_facts hx
  rw [e]
  obtain ⟨s1, c1⟩ := refNet_ok hx
  obtain ⟨s2, c2⟩ := refNet_ok hy
  obtain ⟨f1, f2, _⟩ := coB_lens c1
  obtain ⟨g1, g2, _⟩ := coB_lens c2
  have l1 := (permB_iff.1 h1).1
  have l2 := (permB_iff.1 h2).1
  have len := hi.len
  have g1' : (((refNet ⟨x.nets, ordD z.2 (x.ds.map (renD z.1)), x.ps.map (renP z.1)⟩).1.1.length : Nat) : Int) = x.nets := g1
  refine ⟨ec, hn.1.symm, s1, c1, c2, ⟨by omega, by omega, by omega, by omega⟩, fun i h => ?_, fun i h => ?_, hpo, show -9223372036854775808 ≤ x.nets ∧ x.nets ≤ 9223372036854775807 by omega⟩
  · have q := (nmP h1 (i := (i : Int)) (by omega) (by omega)).2
    exact ⟨q.1, by omega, hn.2.1 i (by omega)⟩
  · have q := (nmP h2 (i := (i : Int)) (by omega) (by omega)).2
    exact ⟨q.1, by omega, hn.2.2 i (by omega)⟩
theorem inv_bad {x : Nl} {z : List Int × List Int} (h : ¬ (nlB x = true ∧ permB z.1 x.nets = true ∧ permB z.2 (x.ds.length : Int) = true)) : apC x z ≠ 0 ∧ apR x z = ⟨0, [], []⟩ := by
  unfold apC apR
  by_cases hx : nlB x = true
  · rw [if_pos hx, if_pos hx]
    have : ¬ (permB z.1 x.nets = true ∧ permB z.2 (x.ds.length : Int) = true) := fun e => h ⟨hx, e⟩
    rw [if_neg this, if_neg this]
    exact ⟨by decide, rfl⟩
  · rw [if_neg hx, if_neg hx]
    exact ⟨by decide, rfl⟩
end Go.Proofs.YtehmiekendkjmaaGreat
