/- Contracts and plain laws, part 8, for the statement's proof. -/
import Derived.Test.YtifbffianbgeaaaGreatPkExpLaw7
import Derived.Deep.DeepCutAuto
import Derived.RangeFuncBox
import Derived.RangeFuncLeaves
import Derived.Shelf.Abstract
import Derived.WalkKit
import Derived.OwnWalkIn
import Derived.TacticsInMore
import Derived.LoopNIn
import Derived.LoopIn
import Derived.Maps.AppendAt
import Derived.Lib.SlKeysI
import Derived.BigQuiet
import Derived.Deep.RegionHeld3
namespace Go.Proofs.YtifbffianbgeaaaGreat
open Go.RowKit
set_option linter.unusedVariables false
set_option linter.unusedSimpArgs false
def LlBlk (w : World) (g : Nat) (ps : List (Value × List Int)) : Prop := ∃ cs : Array Value, Blk w g cs 27 ∧ ∀ (i : Nat) p, ps[i]? = some p → cs[i]? = some p.1
set_option maxRecDepth 100000 in
theorem cloneL_any (ls : List (List Int)) (b off n c : Nat) (w : World) (h : LlSl w (.slice (some ⟨b, off, none⟩) n c) ls) (hn : ls.length ≤ 1000000) :
    Calls Tryz.prog 169 #[.slice (some ⟨b, off, none⟩) n c] w fun e w' => ∃ (g cap : Nat) (ps : List (Value × List Int)), e = .returned (.slice (some ⟨g, 0, none⟩) ls.length cap) ∧ ps.map (·.2) = ls ∧ (∀ p ∈ ps, IntSl w p.1 p.2) ∧ w.heap.size ≤ g ∧ LlBlk w' g ps ∧ ls.length ≤ cap ∧ cap ≤ maxLen ∧ Below w.heap.size w w' := by
  obtain ⟨i0, hi0, hz0, hz1, hz2⟩ := info_parts infoL
  have key : ∃ vs : List Value, vs.length = ls.length ∧ (∀ (j : Nat) u, vs[j]? = some u → w.cell? ⟨b, off + j, none⟩ = some u) ∧ ∀ (i : Nat) s xs, vs[i]? = some s → ls[i]? = some xs → IntSl w s xs := by
    rcases h with ⟨a, c', e, rfl⟩ | ⟨b', off', cap', e, h1, h2, h3⟩
    · exact ⟨[], rfl, by simp, by simp⟩
    · simp only [Value.slice.injEq, Option.some.injEq, Addr.mk.injEq, and_true] at e
      obtain ⟨⟨rfl, rfl⟩, e2, rfl⟩ := e
      have hch : ∀ i : Fin ls.length, ∃ s, w.cell? ⟨b, off + i, none⟩ = some s ∧ IntSl w s ls[i] := fun i => h3 i ls[i] (List.getElem?_eq_getElem i.2)
      refine ⟨List.ofFn fun i => Classical.choose (hch i), by simp, fun j u hu => ?_, fun i s xs hs hx => ?_⟩
      · rw [List.getElem?_ofFn] at hu
        split at hu
        · rename_i hj
          cases hu
          exact (Classical.choose_spec (hch ⟨j, hj⟩)).1
        · cases hu
      · rw [List.getElem?_ofFn] at hs
        split at hs
        · rename_i hj
          cases hs
          have h5 := (Classical.choose_spec (hch ⟨i, hj⟩)).2
          rw [List.getElem?_eq_getElem hj] at hx
          cases hx
          exact h5
        · cases hs
  have hnl : n = ls.length := by
    obtain ⟨a, c', e⟩ := h.sized
    simp at e; exact e.2.1
  subst hnl
  obtain ⟨vs, k1, k2, k3⟩ := key
  have hone : ∀ u ∈ vs, u.oneCell' = true := fun u hu => by
    obtain ⟨i, hi, e⟩ := List.mem_iff_getElem.1 hu
    exact (k3 i u (ls[i]'(by omega)) (by rw [List.getElem?_eq_getElem hi, e]) (List.getElem?_eq_getElem _)).one
  have hcon := Tryz.slices_Clone_f169 i0 _ 1 24 hi0 hz0 hz1 hz2 rfl (by decide) (fun w => by kernel_rfl) b off ls.length c vs w (by omega) (by unfold maxLen; omega) (by omega) k2 hone
  refine hcon.mono ?_
  rintro e w' ⟨v', rfl, ⟨hl, hrow⟩, hne, hb⟩
  rcases hrow with ⟨rfl, _⟩ | ⟨g, cap, cur, rfl, hg, hblk, hc1, hc2, hc3, hc4⟩
  · exact absurd rfl hne
  refine ⟨g, cap, vs.zip ls, rfl, by rw [List.map_snd_zip (by omega)], fun p hp => ?_, hg, ⟨cur, hblk, fun i p hp => ?_⟩, hc1, hc2, hb⟩
  · obtain ⟨i, hi, e⟩ := List.mem_iff_getElem.1 hp
    have hi' : i < vs.length ∧ i < ls.length := by simp at hi; omega
    rw [List.getElem_zip] at e
    rw [← e]
    exact k3 i _ _ (List.getElem?_eq_getElem hi'.1) (List.getElem?_eq_getElem hi'.2)
  · have hi : i < (vs.zip ls).length := (List.getElem?_eq_some_iff.1 hp).1
    have hi' : i < vs.length ∧ i < ls.length := by simp at hi; omega
    rw [List.getElem?_eq_getElem hi, List.getElem_zip] at hp
    cases hp
    have h6 : (cur.toList.take (ls.length * 1))[i]? = some vs[i] := by rw [hc4, List.getElem?_eq_getElem hi'.1]
    rw [List.getElem?_take_of_lt (by omega)] at h6
    simpa using h6
/- The program's ranks: the walk. -/
theorem LlBlk.ll {w' : World} {g cap : Nat} {ps : List (Value × List Int)} (h : LlBlk w' g ps) (he : ∀ p ∈ ps, IntSl w' p.1 p.2) (hcap : ps.length ≤ cap) (hmx : cap ≤ maxLen) : LlSl w' (.slice (some ⟨g, 0, none⟩) ps.length cap) (ps.map (·.2)) := by
  obtain ⟨cs, hB, hc⟩ := h
  refine .inr ⟨g, 0, cap, by rw [List.length_map], by rw [List.length_map]; exact hcap, hmx, fun i xs hx => ?_⟩
  rw [List.getElem?_map] at hx
  obtain ⟨p, hp, rfl⟩ := Option.map_eq_some_iff.1 hx
  exact ⟨p.1, by rw [Nat.zero_add, hB.cell]; exact hc i p hp, he p (List.mem_of_getElem? hp)⟩
set_option maxRecDepth 100000 in
set_option maxHeartbeats 2000000 in
theorem implRanks_some (ls : List (List Int)) (b off n c : Nat) (w : World) (h : LlSl w (.slice (some ⟨b, off, none⟩) n c) ls) (hn : ls.length ≤ 1000) :
    Calls Tryz.prog 154 #[.slice (some ⟨b, off, none⟩) n c] w fun e w' => ∃ v, e = .returned v ∧ OwnR w' w.heap.size w'.heap.size v (rankS ls) ∧ Below w.heap.size w w' := by
  have eg1 : ∀ args w, (callFunc 170 args).run Tryz.prog w = .ok (.enter 170 args) w := enters_of Tryz.func170 (by kernel_rfl) rfl
  have eg2 : ∀ args w, (callFunc 172 args).run Tryz.prog w = .ok (.enter 172 args) w := enters_of Tryz.func172 (by kernel_rfl) rfl
  have eg3 : ∀ args w, (callFunc 174 args).run Tryz.prog w = .ok (.enter 174 args) w := enters_of Tryz.func174 (by kernel_rfl) rfl
  have HCL := Lib.hid (cloneL_any ls b off n c w h (by omega))
  have HS := Lib.hid (fun blk cap ps w cs hB hc he hn => sortFuncL_any 170 eg1 (fun W s1 s2 xs ys h h' => ranks1_any s1 s2 xs ys W h h') blk cap ps w cs hB hc he hn)
  have HCM := Lib.hid (fun blk cap ps w cs hB hc he hn h1 h2 => compactFuncL_any 172 eg2 (fun W s1 s2 xs ys h h' => ranks2_any s1 s2 xs ys W h h') blk cap ps w cs hB hc he hn h1 h2)
  have HIX := Lib.hid (fun lb p s0 xs w h hp => indexFuncL_any 174 lb eg3 p s0 xs w h hp)
  have HL := Lib.hid h
  have hnl : n = ls.length := by
    obtain ⟨a, c', e⟩ := h.sized
    simp at e; exact e.2.1
  subst hnl
  clear h eg1 eg2 eg3
  go_enter Tryz.func154, Tryz.ntmps154
  go_wp2_with fail
  refine HCL.out.mono ?_
  rintro e w1 ⟨g, cap, ps, rfl, hps, hpe, hgl, ⟨cs, hB, hc⟩, hcap, hmx, hb1⟩
  have hpl : ps.length = ls.length := by rw [← hps, List.length_map]
  have old1 : ∀ k, k < w.heap.size → w1.heap[k]? = w.heap[k]? := fun k hk => hb1.block k hk
  have HSC := Lib.hid (HS.out g cap ps w1 cs hB hc (fun p hp => ⟨(hpe p hp).one, fun w' ho => (hpe p hp).old (fun k hk => (ho k (by have := hb1.size; omega) (by omega)).trans (old1 k hk))⟩) (by omega))
  rw [hpl] at HSC
  have HPE := Lib.hid hpe
  have HPS := Lib.hid hps
  have HPL := Lib.hid hpl
  clear hB hc hpe hps hpl HS
  go_wp2_with fail
  refine HSC.out.mono ?_
  rintro e w2 ⟨rfl, qs, ds, hperm, hsort, hB2, hsz2, hc2, hW2⟩
  have hql : qs.length = ls.length := by rw [hperm.length_eq]; exact HPL.out
  have hqe : ∀ p ∈ qs, IntSl w p.1 p.2 := fun p hp => HPE.out p (hperm.mem_iff.1 hp)
  have old2 : ∀ k, k < w.heap.size → w2.heap[k]? = w.heap[k]? := fun k hk => (hW2.block k (by have := hb1.size; omega) (by omega)).trans (old1 k hk)
  have hb2 : Below w.heap.size w w2 := hW2.below hb1 hgl
  have HCC := Lib.hid (HCM.out g cap qs w2 ds hB2 hc2 (fun p hp => ⟨(hqe p hp).one, fun w' ho => (hqe p hp).old (fun k hk => (ho k (by have := hb2.size; omega) (by omega)).trans (old2 k hk))⟩) (by omega) (by omega) hmx)
  rw [hql] at HCC
  have HSO := Lib.hid (show (qs.map (·.2)).Pairwise (fun a b => lcmp a b ≤ 0) by rw [List.pairwise_map]; exact hsort)
  have HQP := Lib.hid (show ∀ z, z ∈ qs.map (·.2) ↔ z ∈ ls by
    intro z
    rw [← HPS.out]
    exact (hperm.map _).mem_iff)
  have HQE := Lib.hid hqe
  have HQL := Lib.hid hql
  clear HCL HSC hperm hsort hB2 hc2 hql hqe HPE HPS HPL HCM hsz2 old1
  go_wp2_with fail
  refine HCC.out.mono ?_
  rintro e w3 ⟨rs, es, rfl, hdd, hmem, hB3, hc3, hW3, hrq⟩
  have hb3 : Below w.heap.size w w3 := hW3.below hb2 hgl
  have old3 : ∀ k, k < w.heap.size → w3.heap[k]? = w.heap[k]? := fun k hk => hb3.block k hk
  have hrl : rs.length ≤ ls.length := by have := HQL.out; omega
  have hLD : LlSl w3 (.slice (some ⟨g, 0, none⟩) rs.length cap) (ddp (qs.map (·.2))) := by
    rw [← hdd]
    exact LlBlk.ll ⟨es, hB3, hc3⟩ (fun p hp => (HQE.out p (hmem p hp)).old old3) (by omega) hmx
  have HLD := Lib.hid hLD
  have HPR := Lib.hid (show ∀ x, x ∈ ls → fidx (fun y => decide (y = x)) (ddp (qs.map (·.2))) = rankOf ls x from fun x hx => place_rank (ddp_sorted HSO.out) (fun z => (mem_ddp _ _).trans (HQP.out z)) hx)
  have HL3 := Lib.hid (HL.out.by hb3)
  generalize ddp (qs.map (·.2)) = D at *
  have HTK := Lib.hid (fun k x (h : ls[k]? = some x) => show (rankS ls).take (k + 1) = (rankS ls).take k ++ [(rankOf ls x : Int)] from take_snoc_of (rankS ls) k _ (by simp [rankS, h]))
  have HLR := Lib.hid (length_rankS ls)
  have hrb : ∀ x, rankOf ls x ≤ ls.length := fun x => rankTo_le ls x _
  have HRB := Lib.hid hrb
  clear hLD HCC hdd hmem hB3 hc3 hW3 HSO HQP HQE HQL hb2 old2 old3 hW2 hb1 HL hrq hrb
  have hbs3 := hb3.size
  go_wp2
  go_loopw [4, 16] (fun v i wr => ∃ (k hi : Nat), k ≤ ls.length ∧ i = .int .i64 k ∧ Hid (BldI wr w3.heap.size hi v ((rankS ls).take k)) ∧ w3.heap.size ≤ hi ∧ Below w3.heap.size w3 wr) (fun _ i _ => ls.length - (intOf i).toNat)
  case atStart =>
    refine ⟨0, w3.heap.size + 1, Nat.zero_le _, rfl, Lib.hid ?_, by omega, blwT⟩
    have hB : Blk (w3.alloc (.cells #[] 2)) w3.heap.size #[] 2 := Blk.new _ rfl
    exact BldI.lit (zs := []) hB rfl (by simp) (Nat.le_refl _) (by omega) (by simp)
  case round =>
    obtain ⟨k, hi, hk, rfl, HB, hhi, hb⟩ := hrel
    have hml : ((rankS ls).take k).length = k := by rw [List.length_take, HLR.out]; omega
    obtain ⟨av, cv, rfl⟩ := HB.out.sized
    rw [hml] at HB ⊢
    have HML := Lib.hid hml
    have hbs := hb.size
    clear hml
    by_cases hlt : k < ls.length
    · obtain ⟨x, hx⟩ : ∃ x, ls[k]? = some x := ⟨ls[k], List.getElem?_eq_getElem hlt⟩
      rcases HL3.out.by hb with ⟨_, _, _, e2⟩ | ⟨b', off', cap', he, _, _, hcc⟩
      · rw [e2] at hlt; simp at hlt
      obtain ⟨⟨rfl, rfl⟩, rfl⟩ : (b = b' ∧ off = off') ∧ c = cap' := by simpa using he
      obtain ⟨s, c1, hS⟩ := hcc k x hx
      have HSX := Lib.hid hS
      have HX := Lib.hid hx
      have HTX := Lib.hid (HTK.out k x hx)
      have HRX := Lib.hid (HPR.out x (List.mem_of_getElem? hx))
      have hrx := HRB.out x
      obtain ⟨ax, cx, rfl⟩ := hS.len
      obtain ⟨R, hR⟩ : ∃ R, wr.heap.size = R := ⟨_, rfl⟩
      obtain ⟨wA, hwA⟩ : ∃ wA, wA = wr.alloc (.cells #[.slice ax x.length cx] 27) := ⟨_, rfl⟩
      have hal : Below wr.heap.size wr wA := by rw [hwA]; exact (Below.refl _ wr).alloc (Nat.le_refl _) _
      have kX : Blk wA R #[.slice ax x.length cx] 27 := by rw [hwA]; exact Blk.new _ hR.symm
      have hCI := HIX.out #[.pointer (some ⟨R, 0, none⟩)] (fun y => decide (y = x)) (.slice (some ⟨g, 0, none⟩) rs.length cap) D wA ((HLD.out.by hb).by hal) (fun W y sv hbW hy hSy => ranks3_any sv (.slice ax x.length cx) y x R W hSy ((HSX.out.by hal).by hbW) (by rw [(Blk.by hbW kX).cell]; rfl))
      rw [HRX.out] at hCI
      have HCI := Lib.hid hCI
      have HWA := Lib.hid hwA
      have i1 : (0 : Int) ≤ (k : Int) := by omega
      have i2 : (k : Int) < (ls.length : Int) := by omega
      generalize rankOf ls x = rk at *
      clear hx he hcc hS hCI hwA
      go_wp2_with fail
      rw [← HWA.out]
      (try rw [hR])
      refine HCI.out.mono ?_
      rintro e w4 ⟨rfl, hb4⟩
      have hb5 : Below wr.heap.size wr w4 := below_on hb4 hal
      have HB4 := Lib.hid (HB.out.by hb5)
      have hb6 : Below w3.heap.size w3 w4 := below_on hb5 hb
      have hs4 := hb5.size
      clear hb4 hb5 hal kX HCI
      go_wp2_with (refine list_pushI (by rfl) _ _ (by rfl) w3.heap.size hi _ _ [(rk : Int)] (by rfl) (HB4.out.by blwT) w4.heap.size 1 #[.int .i64 (rk : Int)] (by rfl) (by rfl) (by omega) (Blk.new _ rfl) (by rfl) hhi (by rw [HML.out]; omega) ?_; intro a2 c2' w5 hB5 hw5; have HB5 := Lib.hid hB5; rw [HML.out]; clear hB5)
      have hsz := hw5.size
      simp only [World.size_alloc] at hsz
      refine ⟨⟨k + 1, w5.heap.size, by omega, by go_num, Lib.hid ?_, by omega, hw5.below (below_al hb6 _) (by omega)⟩, by simp [intOf]; omega⟩
      rw [HTX.out]
      have := HB5.out
      rw [HML.out] at this
      exact this
    · obtain rfl : k = ls.length := by omega
      have hBD := HB.out
      rw [List.take_of_length_le (by rw [HLR.out]; exact Nat.le_refl _)] at hBD
      have HBD := Lib.hid hBD
      clear hBD HB
      go_wp2
      go_ret
      refine ⟨_, rfl, OwnR.wide' HBD.out.own (by omega) HBD.out.1, ?_⟩
      exact hb3.trans (hb.mono (by omega))
/- The program's ranks: one contract. -/
set_option maxRecDepth 100000 in
set_option maxHeartbeats 2000000 in
theorem implRanks_none (c : Nat) (w : World) :
    Calls Tryz.prog 154 #[.slice none 0 c] w fun e w' => ∃ v, e = .returned v ∧ OwnR w' w.heap.size w'.heap.size v (rankS []) ∧ Below w.heap.size w w' := by
  have HCL := Lib.hid (Tryz.slices_Clone_nil_f169 0 c w)
  have HSN := Lib.hid (fun fv w => Tryz.slices_SortFunc_none (α := Nat) none 0 fv w)
  have HCM : Hid (∀ fv w, Calls Tryz.prog 171 #[.slice none 0 0, fv] w fun e w' => e = .returned (.slice none 0 0) ∧ w' = w) := by
    apply Lib.hid
    intro fv w
    go_enter Tryz.func171, Tryz.ntmps171
    go_wp2
    go_ret
    exact ⟨rfl, rfl⟩
  go_enter Tryz.func154, Tryz.ntmps154
  go_wp2_with fail
  refine HCL.out.mono ?_
  rintro e w1 ⟨rfl, rfl⟩
  go_wp2_with fail
  refine (HSN.out _ _).mono ?_
  rintro e w2 ⟨rfl, rfl⟩
  go_wp2_with fail
  refine (HCM.out _ _).mono ?_
  rintro e w3 ⟨rfl, rfl⟩
  go_wp2
  go_loopw [4, 16] (fun v i wr => i = .int .i64 0 ∧ (∃ c, v = .slice c 0 0) ∧ Below w3.heap.size w3 wr) (fun _ _ _ => 0)
  case atStart => exact ⟨rfl, ⟨_, rfl⟩, blwT⟩
  case round =>
    obtain ⟨rfl, ⟨cc, rfl⟩, hb⟩ := hrel
    go_wp2
    go_ret
    exact ⟨_, rfl, .inl ⟨_, _, rfl, rfl⟩, hb⟩
theorem implRanks_any (ls : List (List Int)) (sv : Value) (w : World) (h : LlSl w sv ls) (hf : (∃ c, sv = .slice none 0 c) ∨ ∃ b n c, sv = .slice (some ⟨b, 0, none⟩) n c) (hn : ls.length ≤ 1000) :
    Calls Tryz.prog 154 #[sv] w fun e w' => ∃ v, e = .returned v ∧ OwnR w' w.heap.size w'.heap.size v (rankS ls) ∧ Below w.heap.size w w' := by
  rcases hf with ⟨c, rfl⟩ | ⟨b, n, c, rfl⟩
  · have : ls = [] := by
      obtain ⟨a, c', e⟩ := h.sized
      simp at e
      exact List.eq_nil_of_length_eq_zero e.2.1.symm
    subst this
    exact implRanks_none c w
  · exact implRanks_some ls b 0 n c w h hn
def dsgLs (x : Nl) (c : List Int × List Int) : List (List Int) := (List.range x.ds.length).map fun k : Nat => dsgL (dAt x.ds k) (nmOf c.2 (k : Int)) c.1
def refS (x : Nl) (c : List Int × List Int) : List Int × List Int := (rankS ((List.range c.1.length).map fun j : Nat => netL' x c (j : Int)), rankS (dsgLs x c))
theorem dsgL_pos (d : Dv) (k : Int) (cn : List Int) : 0 < (dsgL d k cn).length := by
  unfold dsgL
  rw [List.length_append]
  split <;> simp <;> omega
theorem refS_bounds {x : Nl} {c : List Int × List Int} (h : coB x c = true) : (refS x c).1.length ≤ 24 ∧ (refS x c).2.length ≤ 24 := by
  obtain ⟨h1, h2, h3, h4⟩ := coB_facts h
  simp only [refS, length_rankS, List.length_map, List.length_range, dsgLs]
  omega
/- The reference's l29Step. -/
set_option maxRecDepth 100000 in
set_option maxHeartbeats 2000000 in
theorem specStep_any (x : Nl) (c : List Int × List Int) (m : Nat) (v u : Value) (w : World) (h : NlV w v x) (hc : CoV w u c) (hm : x.nets = m) (hm24 : m ≤ 24) (hl : x.ds.length ≤ 24) (hcn : c.1.length = m) (hcd : c.2.length = x.ds.length)
    (hp3 : ∀ d ∈ x.ds, d.pins.length ≤ 3) (hshp : ∀ d ∈ x.ds, Shp d ∧ ∀ p ∈ d.pins, 0 ≤ p ∧ p < c.1.length) (hoc : ∀ net, ∀ o ∈ occs x.ds c.2 net x.ds.length, ∃ q r : Nat, q < 24 ∧ r < 3 ∧ o = [(q : Int), (r : Int)]) :
    Calls Tryz.prog 100 #[v, u] w fun e w' => ∃ v', e = .returned v' ∧ OwnPr w' w.heap.size w'.heap.size v' (refS x c) ∧ Below w.heap.size w w' := by
  have HN := Lib.hid h
  have HU := Lib.hid hc
  obtain ⟨Y, hY⟩ : ∃ Y, refS x c = Y := ⟨_, rfl⟩
  rw [hY]
  obtain ⟨NN, hNN⟩ : ∃ Z, ((List.range m).map fun j : Nat => netL' x c (j : Int)) = Z := ⟨_, rfl⟩
  obtain ⟨DD, hDD⟩ : ∃ Z, dsgLs x c = Z := ⟨_, rfl⟩
  have HY := Lib.hid (show (rankS NN, rankS DD) = Y by rw [← hY, ← hNN, ← hDD]; unfold refS; rw [hcn])
  have hNl : NN.length = m := by rw [← hNN]; simp
  have hDl : DD.length = x.ds.length := by rw [← hDD]; simp [dsgLs]
  have HNL := Lib.hid hNl
  have HDL := Lib.hid hDl
  have HNT := Lib.hid (fun k (hk : k < m) => show NN.take (k + 1) = NN.take k ++ [netL' x c (k : Int)] from take_snoc_of NN k _ (by rw [← hNN]; simp [hk]))
  have HDT := Lib.hid (fun k d (hd : x.ds[k]? = some d) => show DD.take (k + 1) = DD.take k ++ [dsgL d (nmOf c.2 (k : Int)) c.1] from take_snoc_of DD k _ (by
    obtain ⟨h1, h2⟩ := List.getElem?_eq_some_iff.1 hd
    rw [← hDD]
    simp [dsgLs, h1, h2, dAt, List.getD_eq_getElem?_getD, hd]))
  have HNP := Lib.hid (fun k : Nat => show 0 < (netL' x c (k : Int)).length by unfold netL'; rw [List.length_append]; simp; omega)
  have HDP := Lib.hid (fun (d : Dv) (k : Int) => show 0 < (dsgL d k c.1).length from dsgL_pos d k c.1)
  have HNV := Lib.hid (fun k (hk : k < m) v u w h h' => specNet_any x c k v u w h h' (by omega) hcd hl hp3)
  have HDV := Lib.hid (fun k d (hd : x.ds[k]? = some d) v u w h h' => l29Device_any x c k d v u w h h' hd (by have := (List.getElem?_eq_some_iff.1 hd).1; omega) (hshp d (List.mem_of_getElem? hd)).1 (hshp d (List.mem_of_getElem? hd)).2 hl (by omega))
  have HR1 := Lib.hid (fun sv w h  => specRanks_any NN sv w h  (by omega))
  have HR2 := Lib.hid (fun sv w h  => specRanks_any DD sv w h  (by omega))
  obtain ⟨a, ca, a', ca', rfl⟩ := h.sized
  obtain ⟨b, cb, b', cb', rfl⟩ := hc.sized
  clear h hc hY hNN hDD hcn hcd hp3 hshp hoc hNl hDl
  rw [hm] at HN ⊢
  clear hm
  go_enter Tryz.func100, Tryz.ntmps100
  go_wp2
  go_loopw [5, 6] (fun s i wr => ∃ (k hi : Nat), k ≤ m ∧ i = .int .i64 k ∧ Hid (BldL wr (w.heap.size + 1 + 1 + 1) hi s (NN.take k)) ∧ w.heap.size + 1 + 1 + 1 < hi ∧ Blk wr w.heap.size #[.int .i64 (m : Int), .slice a x.ds.length ca, .slice a' x.ps.length ca'] 35 ∧ Blk wr (w.heap.size + 1) #[.slice b c.1.length cb, .slice b' c.2.length cb'] 81 ∧ Blk wr (w.heap.size + 1 + 1) #[.slice none 0 0, .slice none 0 0] 81 ∧ Below w.heap.size w wr) (fun _ i _ => m - (intOf i).toNat)
  case atStart =>
    refine ⟨0, w.heap.size + 1 + 1 + 1 + 1, Nat.zero_le _, rfl, Lib.hid ?_, by omega, blkT, blkT, blkT, blwT⟩
    rw [List.take_zero]
    exact BldL.lit (Blk.new _ (by simp)) (Nat.le_refl _) (by omega) (by simp)
  case round =>
    obtain ⟨k, hi, hk, rfl, HB, hhi, kA, kC, kR, hb⟩ := hrel
    obtain ⟨av, cv, rfl⟩ := HB.out.sized
    have hml : (NN.take k).length = k := by rw [List.length_take, HNL.out]; omega
    rw [hml] at HB ⊢
    have HML := Lib.hid hml
    have hhs := HB.out.1
    have qA := kA.cell
    have qC := kC.cell
    have lR := kR.lt
    clear hml
    by_cases hlt : k < m
    · have i1 : (0 : Int) ≤ (k : Int) := by omega
      have i2 : (k : Int) < (m : Int) := by omega
      go_wp2_with fail
      refine (HNV.out k hlt _ _ _ (HN.out.by hb) (HU.out.by hb)).mono ?_
      rintro e w3 ⟨v3, rfl, hO3, hb3⟩
      obtain ⟨f3, ⟨f31, f32⟩, hp3⟩ := hO3.pick' (HNP.out k)
      have HP3 := Lib.hid hp3
      obtain ⟨a3, c3, rfl⟩ := hO3.sl.len
      have hs3 := hb3.size
      have HB3 := Lib.hid (HB.out.by hb3)
      have kA3 := Blk.by hb3 kA
      have kC3 := Blk.by hb3 kC
      have kR3 := Blk.by hb3 kR
      have hbw := below_on hb3 hb
      have HNX := Lib.hid (HNT.out k hlt)
      generalize netL' x c (k : Int) = G at *
      clear hO3 hp3 qA qC HB
      go_wp2_with (refine list_pushL (by rfl) _ _ (by rfl) (w.heap.size + 1 + 1 + 1) hi (.slice av k cv) (NN.take k) (by rfl) (HB3.out.by blwT) w3.heap.size G _ f3 (by rfl) (Blk.new _ rfl) (OwnR.new HP3.out _) (by omega) (by omega) (by simp; omega) (by rw [HML.out]; omega) ?_; intro a5 c5 w5 hB5 hw5; have HB5 := Lib.hid hB5; rw [HML.out]; clear hB5)
      have hsz := hw5.size
      simp only [World.size_alloc] at hsz
      refine ⟨⟨k + 1, w5.heap.size, by omega, by go_num, Lib.hid ?_, by omega, hw5.blk (kA3.past _) (by omega), hw5.blk (kC3.past _) (by omega), hw5.blk (kR3.past _) (by omega), hw5.below (below_al hbw _) (by omega)⟩, by simp [intOf]; omega⟩
      rw [HNX.out]
      have := HB5.out
      rw [HML.out] at this
      exact this
    · obtain rfl : k = m := by omega
      have hLL := HB.out.ll.1
      rw [List.take_of_length_le (by rw [HNL.out]; exact Nat.le_refl _)] at hLL
      have HLL1 := Lib.hid hLL
      obtain ⟨wo, hwo⟩ : ∃ y : World, y = wr := ⟨_, rfl⟩
      subst hwo
      clear HB hLL
      go_wp2
      go_loopw [7, 8] (fun s i wr2 => ∃ (j h2 : Nat), j ≤ x.ds.length ∧ i = .int .i64 j ∧ Hid (BldL wr2 wo.heap.size h2 s (DD.take j)) ∧ wo.heap.size < h2 ∧ Below wo.heap.size wo wr2) (fun _ i _ => x.ds.length - (intOf i).toNat)
      case atStart =>
        refine ⟨0, wo.heap.size + 1, Nat.zero_le _, rfl, Lib.hid ?_, by omega, blwT⟩
        rw [List.take_zero]
        exact BldL.lit (Blk.new _ rfl) (Nat.le_refl _) (by omega) (by simp)
      case round =>
        obtain ⟨j, h2, hj, rfl, HBd, hh2, hb2⟩ := hrel
        obtain ⟨ad, cd, rfl⟩ := HBd.out.sized
        have hml : (DD.take j).length = j := by rw [List.length_take, HDL.out]; omega
        rw [hml] at HBd ⊢
        have HML2 := Lib.hid hml
        have hIs := HBd.out.1
        have hb2s := hb2.size
        have kA2 := Blk.by hb2 kA
        have kC2 := Blk.by hb2 kC
        have kR2 := Blk.by hb2 kR
        have qA2 := kA2.cell
        have qC2 := kC2.cell
        have lA2 := kA2.lt
        have hbw := below_on hb2 hb
        clear qA qC hml
        by_cases hlj : j < x.ds.length
        · obtain ⟨d, hd⟩ : ∃ d, x.ds[j]? = some d := ⟨x.ds[j], List.getElem?_eq_getElem hlj⟩
          have HDX := Lib.hid (HDT.out j d hd)
          have HDC := Lib.hid (HDV.out j d hd)
          have hdp := HDP.out d (nmOf c.2 (j : Int))
          have j1 : (0 : Int) ≤ (j : Int) := by omega
          have j2 : (j : Int) < (x.ds.length : Int) := by omega
          clear hd
          generalize dsgL d (nmOf c.2 (j : Int)) c.1 = G at *
          go_wp2_with fail
          refine (HDC.out _ _ _ (HN.out.by hbw) (HU.out.by hbw)).mono ?_
          rintro e w3 ⟨v3, rfl, hO3, hb3⟩
          obtain ⟨f3, ⟨f31, f32⟩, hp3⟩ := hO3.pick' hdp
          have HP3 := Lib.hid hp3
          obtain ⟨a3, c3, rfl⟩ := hO3.sl.len
          have hs3 := hb3.size
          have HB3 := Lib.hid (HBd.out.by hb3)
          have hb23 := below_on hb3 hb2
          clear hO3 hp3 qA2 qC2 HBd
          go_wp2_with (refine list_pushL (by rfl) _ _ (by rfl) wo.heap.size h2 (.slice ad j cd) (DD.take j) (by rfl) (HB3.out.by blwT) w3.heap.size G _ f3 (by rfl) (Blk.new _ rfl) (OwnR.new HP3.out _) (by omega) (by omega) (by simp; omega) (by rw [HML2.out]; omega) ?_; intro a5 c5 w5 hB5 hw5; have HB5 := Lib.hid hB5; rw [HML2.out]; clear hB5)
          have hsz := hw5.size
          simp only [World.size_alloc] at hsz
          refine ⟨⟨j + 1, w5.heap.size, by omega, by go_num, Lib.hid ?_, by omega, hw5.below (below_al hb23 _) (by omega)⟩, by simp [intOf]; omega⟩
          rw [HDX.out]
          have := HB5.out
          rw [HML2.out] at this
          exact this
        · obtain rfl : j = x.ds.length := by omega
          have hLL2 := HBd.out.ll.1
          rw [List.take_of_length_le (by rw [HDL.out]; exact Nat.le_refl _)] at hLL2
          have HLL2 := Lib.hid hLL2
          have hos := kR.lt
          clear hLL2 HBd
          go_wp2_with fail
          have hLL1 := HLL1.out.by hb2
          obtain ⟨_, _, es⟩ := hLL1.sized
          rw [HNL.out] at es
          refine (HR1.out _ _ hLL1).mono ?_
          rintro e w6 ⟨v6, rfl, hO6, hb6⟩
          have HO6 := Lib.hid hO6
          obtain ⟨a6, c6, rfl⟩ := hO6.sl.len
          rw [length_rankS] at HO6 ⊢
          have hs6 := hb6.size
          clear hO6 es hLL1
          go_wp2_with fail
          refine (HR2.out _ _ (HLL2.out.by hb6)).mono ?_
          rintro e w7 ⟨v7, rfl, hO7, hb7⟩
          have HO7 := Lib.hid hO7
          obtain ⟨a7, c7, rfl⟩ := hO7.sl.len
          rw [length_rankS] at HO7 ⊢
          have hs7 := hb7.size
          have kR7 := Blk.by hb7 (Blk.by hb6 kR2)
          have qR := kR7.cell
          have fR := kR7.free
          have lR := kR7.lt
          have hbw7 := below_on hb7 (below_on hb6 hbw)
          clear hO7 qA2 qC2
          go_wp2
          refine bodyPost_ret (v := .agg #[.slice a6 NN.length c6, .slice a7 DD.length c7]) (by simp [results, Tryz.results100, go_sem, *]) rfl ⟨_, rfl, ?_, blwT⟩
          have hy := HY.out
          rw [← hy]
          refine ⟨_, _, wr.heap.size, w6.heap.size, w6.heap.size, w7.heap.size, rfl, ?_, ?_, ⟨by omega, by simp; omega⟩, ⟨by omega, by simp; try omega⟩, .inl (Nat.le_refl _)⟩
          · exact OwnR.past (Within.off _) (OwnR.past (Within.off _) (OwnR.by hb7 HO6.out) (by omega)) (by omega)
          · exact OwnR.past (Within.off _) (OwnR.past (Within.off _) HO7.out (by omega)) (by omega)
/- The program's refine. -/
set_option maxRecDepth 100000 in
set_option maxHeartbeats 2000000 in
theorem implRefine_any (x : Nl) (c : List Int × List Int) (m : Nat) (v u : Value) (w : World) (h : NlV w v x) (hc : CoV w u c) (hm : x.nets = m) (hm24 : m ≤ 24) (hl : x.ds.length ≤ 24) (hcn : c.1.length = m) (hcd : c.2.length = x.ds.length)
    (hp3 : ∀ d ∈ x.ds, d.pins.length ≤ 3) (hshp : ∀ d ∈ x.ds, Shp d ∧ ∀ p ∈ d.pins, 0 ≤ p ∧ p < c.1.length) (hoc : ∀ net, ∀ o ∈ occs x.ds c.2 net x.ds.length, ∃ q r : Nat, q < 24 ∧ r < 3 ∧ o = [(q : Int), (r : Int)]) :
    Calls Tryz.prog 132 #[v, u] w fun e w' => ∃ v', e = .returned v' ∧ OwnPr w' w.heap.size w'.heap.size v' (refS x c) ∧ Below w.heap.size w w' := by
  have HN := Lib.hid h
  have HU := Lib.hid hc
  obtain ⟨Y, hY⟩ : ∃ Y, refS x c = Y := ⟨_, rfl⟩
  rw [hY]
  obtain ⟨NN, hNN⟩ : ∃ Z, ((List.range m).map fun j : Nat => netL' x c (j : Int)) = Z := ⟨_, rfl⟩
  obtain ⟨DD, hDD⟩ : ∃ Z, dsgLs x c = Z := ⟨_, rfl⟩
  have HY := Lib.hid (show (rankS NN, rankS DD) = Y by rw [← hY, ← hNN, ← hDD]; unfold refS; rw [hcn])
  have hNl : NN.length = m := by rw [← hNN]; simp
  have hDl : DD.length = x.ds.length := by rw [← hDD]; simp [dsgLs]
  have HNL := Lib.hid hNl
  have HDL := Lib.hid hDl
  have HNT := Lib.hid (fun k (hk : k < m) => show NN.take (k + 1) = NN.take k ++ [netL' x c (k : Int)] from take_snoc_of NN k _ (by rw [← hNN]; simp [hk]))
  have HDT := Lib.hid (fun k d (hd : x.ds[k]? = some d) => show DD.take (k + 1) = DD.take k ++ [dsgL d (nmOf c.2 (k : Int)) c.1] from take_snoc_of DD k _ (by
    obtain ⟨h1, h2⟩ := List.getElem?_eq_some_iff.1 hd
    rw [← hDD]
    simp [dsgLs, h1, h2, dAt, List.getD_eq_getElem?_getD, hd]))
  have HNP := Lib.hid (fun k : Nat => show 0 < (netL' x c (k : Int)).length by unfold netL'; rw [List.length_append]; simp; omega)
  have HDP := Lib.hid (fun (d : Dv) (k : Int) => show 0 < (dsgL d k c.1).length from dsgL_pos d k c.1)
  have HNV := Lib.hid (fun v u w h h' => implNets_any x c m v u w h h' hm hm24 hl hcn hcd (fun d hd => ⟨hp3 d hd, fun p hp => by have := (hshp d hd).2 p hp; omega⟩) hoc)
  rw [hNN] at HNV
  have HDV := Lib.hid (fun k d (hd : x.ds[k]? = some d) v u w h h' => dsgDevice_any x c k d v u w h h' hd (by have := (List.getElem?_eq_some_iff.1 hd).1; omega) (hshp d (List.mem_of_getElem? hd)).1 (hshp d (List.mem_of_getElem? hd)).2 hl (by omega))
  have HR1 := Lib.hid (fun sv w h hf => implRanks_any NN sv w h hf (by omega))
  have HR2 := Lib.hid (fun sv w h hf => implRanks_any DD sv w h hf (by omega))
  obtain ⟨a, ca, a', ca', rfl⟩ := h.sized
  obtain ⟨b, cb, b', cb', rfl⟩ := hc.sized
  clear h hc hY hNN hDD hcn hcd hp3 hshp hoc hNl hDl
  rw [hm] at HN ⊢
  clear hm
  go_enter Tryz.func132, Tryz.ntmps132
  go_wp2
  go_loopw [5, 11] (fun s i wr => ∃ (j hi : Nat), j ≤ x.ds.length ∧ i = .int .i64 j ∧ Hid (BldL wr (w.heap.size + 1 + 1 + 1) hi s (DD.take j)) ∧ w.heap.size + 1 + 1 + 1 < hi ∧ Blk wr w.heap.size #[.int .i64 (m : Int), .slice a x.ds.length ca, .slice a' x.ps.length ca'] 35 ∧ Blk wr (w.heap.size + 1) #[.slice b c.1.length cb, .slice b' c.2.length cb'] 81 ∧ Blk wr (w.heap.size + 1 + 1) #[.slice none 0 0, .slice none 0 0] 81 ∧ Below w.heap.size w wr) (fun _ i _ => x.ds.length - (intOf i).toNat)
  case atStart =>
    refine ⟨0, w.heap.size + 1 + 1 + 1 + 1, Nat.zero_le _, rfl, Lib.hid ?_, by omega, blkT, blkT, blkT, blwT⟩
    rw [List.take_zero]
    exact BldL.lit (Blk.new _ (by simp)) (Nat.le_refl _) (by omega) (by simp)
  case round =>
    obtain ⟨j, hi, hj, rfl, HB, hhi, kA, kC, kR, hb⟩ := hrel
    obtain ⟨av, cv, rfl⟩ := HB.out.sized
    have hml : (DD.take j).length = j := by rw [List.length_take, HDL.out]; omega
    rw [hml] at HB ⊢
    have HML := Lib.hid hml
    have hhs := HB.out.1
    have qA := kA.cell
    have qC := kC.cell
    have lR := kR.lt
    clear hml
    by_cases hlj : j < x.ds.length
    · obtain ⟨d, hd⟩ : ∃ d, x.ds[j]? = some d := ⟨x.ds[j], List.getElem?_eq_getElem hlj⟩
      have HDX := Lib.hid (HDT.out j d hd)
      have HDC := Lib.hid (HDV.out j d hd)
      have hdp := HDP.out d (nmOf c.2 (j : Int))
      have j1 : (0 : Int) ≤ (j : Int) := by omega
      have j2 : (j : Int) < (x.ds.length : Int) := by omega
      clear hd
      generalize dsgL d (nmOf c.2 (j : Int)) c.1 = G at *
      go_wp2_with fail
      refine (HDC.out _ _ _ (HN.out.by hb) (HU.out.by hb)).mono ?_
      rintro e w3 ⟨v3, rfl, hO3, hb3⟩
      obtain ⟨f3, ⟨f31, f32⟩, hp3⟩ := hO3.pick' hdp
      have HP3 := Lib.hid hp3
      obtain ⟨a3, c3, rfl⟩ := hO3.sl.len
      have hs3 := hb3.size
      have HB3 := Lib.hid (HB.out.by hb3)
      have kA3 := Blk.by hb3 kA
      have kC3 := Blk.by hb3 kC
      have kR3 := Blk.by hb3 kR
      have hbw := below_on hb3 hb
      clear hO3 hp3 qA qC HB
      go_wp2_with (refine list_pushL (by rfl) _ _ (by rfl) (w.heap.size + 1 + 1 + 1) hi (.slice av j cv) (DD.take j) (by rfl) (HB3.out.by blwT) w3.heap.size G _ f3 (by rfl) (Blk.new _ rfl) (OwnR.new HP3.out _) (by omega) (by omega) (by simp; omega) (by rw [HML.out]; omega) ?_; intro a5 c5 w5 hB5 hw5; have HB5 := Lib.hid hB5; rw [HML.out]; clear hB5)
      have hsz := hw5.size
      simp only [World.size_alloc] at hsz
      refine ⟨⟨j + 1, w5.heap.size, by omega, by go_num, Lib.hid ?_, by omega, hw5.blk (kA3.past _) (by omega), hw5.blk (kC3.past _) (by omega), hw5.blk (kR3.past _) (by omega), hw5.below (below_al hbw _) (by omega)⟩, by simp [intOf]; omega⟩
      rw [HDX.out]
      have := HB5.out
      rw [HML.out] at this
      exact this
    · obtain rfl : j = x.ds.length := by omega
      have hLL := HB.out.ll
      rw [List.take_of_length_le (by rw [HDL.out]; exact Nat.le_refl _)] at hLL
      have HLL := Lib.hid hLL
      clear HB hLL
      go_wp2_with fail
      refine (HNV.out _ _ _ (HN.out.by hb) (HU.out.by hb)).mono ?_
      rintro e w5 ⟨v5, rfl, hB5, hb5⟩
      have HLN := Lib.hid hB5.ll
      have hs5 := hb5.size
      obtain ⟨a5, c5, rfl⟩ := hB5.sized
      clear hB5
      go_wp2_with fail
      refine (HR1.out _ _ HLN.out.1 (HLN.out.2.imp id (fun ⟨b, c, e⟩ => ⟨b, _, c, e⟩))).mono ?_
      rintro e w6 ⟨v6, rfl, hO6, hb6⟩
      have HO6 := Lib.hid hO6
      obtain ⟨a6, c6, rfl⟩ := hO6.sl.len
      rw [length_rankS] at HO6 ⊢
      have hs6 := hb6.size
      have hb56 := below_on hb6 hb5
      clear hO6
      go_wp2_with fail
      refine (HR2.out _ _ (HLL.out.1.by hb56) (HLL.out.2.imp id (fun ⟨b, c, e⟩ => ⟨b, _, c, e⟩))).mono ?_
      rintro e w7 ⟨v7, rfl, hO7, hb7⟩
      have HO7 := Lib.hid hO7
      obtain ⟨a7, c7, rfl⟩ := hO7.sl.len
      rw [length_rankS] at HO7 ⊢
      have hs7 := hb7.size
      have kR7 := Blk.by hb7 (Blk.by hb56 kR)
      have qR := kR7.cell
      have fR := kR7.free
      have lR7 := kR7.lt
      have hbw7 := below_on hb7 (below_on hb56 hb)
      clear hO7 qA qC
      go_wp2
      refine bodyPost_ret (v := .agg #[.slice a6 NN.length c6, .slice a7 DD.length c7]) (by simp [results, Tryz.results132, go_sem, *]) rfl ⟨_, rfl, ?_, blwT⟩
      have hy := HY.out
      rw [← hy]
      refine ⟨_, _, w5.heap.size, w6.heap.size, w6.heap.size, w7.heap.size, rfl, ?_, ?_, ⟨by omega, by simp; omega⟩, ⟨by omega, by simp; try omega⟩, .inl (Nat.le_refl _)⟩
      · exact OwnR.past (Within.off _) (OwnR.past (Within.off _) (OwnR.by hb7 HO6.out) (by omega)) (by omega)
      · exact OwnR.past (Within.off _) (OwnR.past (Within.off _) HO7.out (by omega)) (by omega)
/- RefineStep: the program's and the reference's. -/
open Go.RowKit Go.Shelf
attribute [local go_sem] Oper.semAt_some
def cameTo (zs : List Int) (k : Nat) : List Int := (List.range k).map fun j => zs[j]?.getD 0
theorem cameTo_succ (zs : List Int) (k : Nat) : cameTo zs (k + 1) = cameTo zs k ++ [zs[k]?.getD 0] := by simp [cameTo, List.range_succ]
theorem cameTo_length (zs : List Int) (k : Nat) : (cameTo zs k).length = k := by simp [cameTo]
theorem cameTo_all (zs : List Int) : cameTo zs zs.length = zs := by
  apply List.ext_getElem
  · simp [cameTo]
  · intro i h1 h2
    simp [cameTo, h2]
theorem cameTo_take (zs : List Int) {k : Nat} (hk : k ≤ zs.length) : cameTo zs k = zs.take k := by
  apply List.ext_getElem
  · simp [cameTo, hk]
  · intro i h1 h2
    have : i < zs.length := by simp [cameTo] at h1; omega
    simp [cameTo, this]
set_option maxRecDepth 100000 in
set_option maxHeartbeats 2000000 in
theorem values1_in (F : Fence) (n : Nat) (h7 : F.fn 149) (hro : F.round = none) (hn : 1 ≤ n) (l Bs n₀ b off len cap : Nat) (zs : List Int) (hreach : len * 8 ≤ 140737488351232) (hb : b < n₀) (J Jx : List Int → World → Prop)
    (hY : ∀ pre x W, J pre W → pre.length < len → YieldAt F (n - 1) Tryz.prog l #[.int .i64 x] W fun e W' =>
      (e = .returned (.bool true) ∧ J (pre ++ [x]) W' ∧ Below n₀ W W') ∨ (e = .returned (.bool false) ∧ Jx (pre ++ [x]) W'))
    (W : World) (hBs : W.cell? ⟨Bs, 0, none⟩ = some (.slice (some ⟨b, off, none⟩) len cap)) (hc : ∀ j, j < len → W.cell? ⟨b, off + j, none⟩ = some (.int .i64 (zs[j]?.getD 0))) (h0 : J [] W) :
    CallsIn F n Tryz.prog 149 #[.func (.yield l) #[] #[], .pointer (some ⟨Bs, 0, none⟩)] W fun e W' => (∃ v, e = .returned v) ∧
      ((∃ ys, ys = cameTo zs len ∧ J ys W') ∨ (∃ pre, (∃ k, k ≤ len ∧ pre = cameTo zs k) ∧ Jx pre W')) := by
  refine callsIn_of_wp Tryz.func149 rfl h7 ?_ hro
  simp only [Tryz.ntmps149, List.size_toArray, List.length_cons, List.length_nil, Nat.reduceAdd, Nat.reduceSub, Array.replicate_succ, Array.replicate_zero, List.push_toArray, List.append_toArray, List.nil_append, List.cons_append]
  gi_wp2
  gi_loopw [7] (fun i wr => ∃ k : Nat, k ≤ len ∧ i = .int .i64 k ∧ J (cameTo zs k) wr ∧ Below n₀ W wr)
    (fun i _ => len - (intOf i).toNat)
  case atStart => exact ⟨0, Nat.zero_le _, rfl, h0, Below.refl _ _⟩
  case round =>
    obtain ⟨k, hk, rfl, hJs, hnx⟩ := hrel
    have hcx : k < len → wr.cell? ⟨b, off + k, none⟩ = some (.int .i64 (zs[k]?.getD 0)) := fun h => (hnx.cell (p := ⟨b, off + k, none⟩) hb).trans (hc k h)
    by_cases hlt : k < len
    · obtain ⟨fn, tmps, assign, body, hy, hR⟩ := hY _ (zs[k]?.getD 0) wr hJs (by rw [cameTo_length]; exact hlt)
      have hcx' := hcx hlt
      gi_wp2
      refine hR.mono ?_
      rintro e W3 (⟨rfl, hJ3, hk3⟩ | ⟨rfl, hJx3⟩)
      · gi_wp2
        go_roundw
        case rel => exact ⟨k + 1, by omega, by simp, by rw [cameTo_succ]; exact hJ3, hnx.trans hk3⟩
        case measure => simp [intOf]; omega
      · gi_wp2
        refine bodyPost_ret (results_none rfl _ _ _) rfl ?_
        exact ⟨⟨_, rfl⟩, .inr ⟨_, ⟨k + 1, by omega, (cameTo_succ _ _).symm⟩, hJx3⟩⟩
    · obtain rfl : k = len := by omega
      gi_wp2
      go_end0
      exact ⟨⟨_, rfl⟩, .inl ⟨_, rfl, hJs⟩⟩
set_option maxRecDepth 100000 in
set_option maxHeartbeats 1000000 in
theorem values1_nil_in (F : Fence) (n : Nat) (h7 : F.fn 149) (hro : F.round = none) (l Bs : Nat) (a : Option Addr) (c : Nat) (J : List Int → World → Prop) (W : World) (hBs : W.cell? ⟨Bs, 0, none⟩ = some (.slice a 0 c)) (h0 : J [] W) :
    CallsIn F n Tryz.prog 149 #[.func (.yield l) #[] #[], .pointer (some ⟨Bs, 0, none⟩)] W fun e W' => (∃ v, e = .returned v) ∧ J [] W' := by
  refine callsIn_of_wp Tryz.func149 rfl h7 ?_ hro
  simp only [Tryz.ntmps149, List.size_toArray, List.length_cons, List.length_nil, Nat.reduceAdd, Nat.reduceSub, Array.replicate_succ, Array.replicate_zero, List.push_toArray, List.append_toArray, List.nil_append, List.cons_append]
  gi_wp2
  gi_loopw [7] (fun i wr => i = .int .i64 0 ∧ J [] wr) (fun _ _ => 0)
  case atStart => exact ⟨rfl, h0⟩
  case round =>
    obtain ⟨rfl, hJs⟩ := hrel
    gi_wp2
    go_end0
    exact ⟨⟨_, rfl⟩, hJs⟩
set_option maxHeartbeats 1000000 in
theorem values_any (a : Option Addr) (len cap : Nat) (w : World) :
    Calls Tryz.prog 119 #[.slice a len cap] w fun e w' => e = .returned (.func (.func 149) #[] #[.pointer (some ⟨w.heap.size, 0, none⟩)]) ∧ w' = w.alloc (.cells #[.slice a len cap] 27) := by
  go_enter Tryz.func119, Tryz.ntmps119
  go_wp2
  go_ret
  exact ⟨rfl, rfl⟩
def IntsAt (n₀ : Nat) (W : World) (sv : Value) (zs : List Int) : Prop :=
  (∃ a c, sv = .slice a 0 c ∧ zs = []) ∨ ∃ b off cap, sv = .slice (some ⟨b, off, none⟩) zs.length cap ∧ b < n₀ ∧ ∀ j, j < zs.length → W.cell? ⟨b, off + j, none⟩ = some (.int .i64 (zs[j]?.getD 0))
theorem IntsAt.below {n₀ : Nat} {A B : World} (h : Below n₀ A B) {sv : Value} {zs : List Int} : IntsAt n₀ A sv zs → IntsAt n₀ B sv zs
  | .inl e => .inl e
  | .inr ⟨b, off, cap, e, hb, hc⟩ => .inr ⟨b, off, cap, e, hb, fun j hj => (h.cell (p := ⟨b, off + j, none⟩) hb).trans (hc j hj)⟩
theorem IntSl.at {w : World} {sv : Value} {zs : List Int} (h : IntSl w sv zs) : IntsAt w.heap.size w sv zs := by
  rcases h with ⟨a, c, rfl, rfl⟩ | ⟨b, off, cap, rfl, h2, h3, h4⟩
  · exact .inl ⟨a, c, rfl, rfl⟩
  · by_cases h0 : zs = []
    · subst h0; exact .inl ⟨_, _, rfl, rfl⟩
    · have hl : 0 < zs.length := List.length_pos_iff.2 h0
      have c0 := h4 0 zs[0] (List.getElem?_eq_getElem hl)
      refine .inr ⟨b, off, cap, rfl, ?_, fun j hj => ?_⟩
      · rcases Nat.lt_or_ge b w.heap.size with h' | h'
        · exact h'
        · simp [World.cell?, Array.getElem?_eq_none h'] at c0
      · have := h4 j zs[j] (List.getElem?_eq_getElem hj)
        rw [this]; simp [hj]
theorem values_stops (F : Fence) (n : Nat) (h7 : F.fn 149) (hro : F.round = none) (hn : 1 ≤ n) (Bs n₀ : Nat) (sv : Value) (zs : List Int) (hreach : zs.length * 8 ≤ 140737488351232) (w : World) (hBs : Bs < w.heap.size) (hn₀ : n₀ ≤ w.heap.size)
    (hc : w.cell? ⟨Bs, 0, none⟩ = some sv) (hI : IntsAt n₀ w sv zs) :
    SeqStopsK F n Tryz.prog 149 #[.pointer (some ⟨Bs, 0, none⟩)] (fun x : Int => #[Value.int .i64 x]) (Below n₀) (fun ys => ys = zs) (fun pre => pre <+: zs) zs.length w := fun l J Jx W hW _ _ hY h0 => by
  have hc' := (hW.cell (p := ⟨Bs, 0, none⟩) hBs).trans hc
  rcases hI.below (hW.mono hn₀) with ⟨a, c, rfl, rfl⟩ | ⟨b, off, cap, rfl, hb, hcs⟩
  · exact (values1_nil_in F n h7 hro l Bs a c J W hc' h0).mono fun e W' ⟨he, hj⟩ => ⟨he, .inl ⟨_, rfl, hj⟩⟩
  · refine (values1_in F n h7 hro hn l Bs n₀ b off zs.length cap zs hreach hb J Jx hY W hc' hcs h0).mono ?_
    rintro e W' ⟨he, ⟨ys, rfl, hj⟩ | ⟨pre, ⟨k, hk, rfl⟩, hj⟩⟩
    · exact ⟨he, .inl ⟨_, cameTo_all zs, hj⟩⟩
    · exact ⟨he, .inr ⟨_, by rw [cameTo_take zs hk]; exact List.take_prefix _ _, hj⟩⟩
set_option maxRecDepth 100000 in
set_option maxHeartbeats 2000000 in
theorem appendSeq_any (Bs : Nat) (sv : Value) (zs : List Int) (hlen : zs.length ≤ 1048576) (w : World) (hBs : Bs < w.heap.size) (hc : w.cell? ⟨Bs, 0, none⟩ = some sv) (hI : IntsAt w.heap.size w sv zs) :
    Calls Tryz.prog 166 #[.slice none 0 0, .func (.func 149) #[] #[.pointer (some ⟨Bs, 0, none⟩)]] w fun e W' => ∃ v, e = .returned v ∧ W'.ownsRow w.heap.size 2 1 v zs.length (zs.map (Value.int .i64)) ∧ (v = .slice none 0 0 ↔ zs = []) ∧ Below w.heap.size w W' := by
  refine (callsIn_wide (n := 4)).1 ?_
  have h1 : 1 ≤ 4 := by omega
  have hro : Fence.wide.round = none := rfl
  obtain ⟨i0, hi, hz0, hz1, hz2⟩ := info_parts infoI
  refine callsIn_of_wp_marks Tryz.func166 rfl trivial ?_ hro
  simp only [Tryz.ntmps166, List.size_toArray, List.length_cons, List.length_nil, Nat.reduceAdd, Nat.reduceSub, Array.replicate_succ, Array.replicate_zero, List.push_toArray, List.append_toArray, List.nil_append, List.cons_append]
  gi_wp2
  have bO := Boxed.new w 27 (.slice none 0 0)
  have hB0 : Below w.heap.size w (w.alloc (.cells #[.slice none 0 0] 27)) := (Below.refl _ w).alloc (Nat.le_refl _) _
  have hc0 : (w.alloc (.cells #[.slice none 0 0] 27)).cell? ⟨Bs, 0, none⟩ = some sv := (hB0.cell (p := ⟨Bs, 0, none⟩) hBs).trans hc
  refine wpIn_rangeFunc_ownG hro h1 (gf := 149) (lb := #[.pointer (some ⟨Bs, 0, none⟩)]) rfl trivial (enters_of Tryz.func149 (by kernel_rfl) rfl)
    (values_stops Fence.wide 3 trivial hro (by omega) Bs w.heap.size sv zs (by omega) _ (by simp; omega) (by simp) hc0 (hI.below hB0)) belowK_t (belowK_b (by simp)) (Below.refl _ _) (fun _ => rfl)
    (fun pre W => (∃ v, Boxed W w.heap.size 27 v ∧ W.ownsRow w.heap.size 2 1 v pre.length (pre.map (Value.int .i64)) ∧ (v = .slice none 0 0 ↔ pre = [])) ∧ Below w.heap.size w W)
    (fun _ _ _ => False)
    (OwnFrom.and (Own.from (holdsRow_own w.heap.size w.heap.size 27 2 1 (fun pre : List Int => pre.length) (fun pre => pre.map (Value.int .i64)) (fun pre v => v = .slice none 0 0 ↔ pre = [])) _) (ownFrom_below (Nat.le_refl _) (by simp)))
    (fun _ _ _ _ _ hs _ _ => hs)
    ⟨⟨_, bO, World.ownsRow_nil _ _ _ _, by simp⟩, hB0⟩
    (fun x => { tmps := #[.slice none 0 0, .func (.func 149) #[] #[.pointer (some ⟨Bs, 0, none⟩)], .pointer (some ⟨w.heap.size, 0, none⟩), undef, .slice none 0 0, .int .i64 x, .func (.func 149) #[] #[.pointer (some ⟨Bs, 0, none⟩)], .int .i64 x, undef, undef, undef, undef, undef], defers := [] }) ?assign ?body ?done ?stop
  case assign =>
    intro l x W K hK
    gi_wp2
    exact hK
  case body =>
    rintro l pre x W ⟨⟨v, hv, hrow, hnil⟩, hB⟩ hlt
    have hc := hv.cell
    gi_wp2_with (gi_at_builtin; refine wpListIn_append_own _ rfl _ _ 27 rfl w.heap.size 2 i0 (.int .i64 0) 1 8 Tryz.underlying27 hi hz0 hz1 hz2 rfl (by decide) _ _ _ rfl (hrow.alloc _) ⟨W.heap.size, 0, none⟩ 1 1 [.int .i64 x] rfl rfl (cell_one_new _ _ _) (by simp [Value.oneCell']) (by unfold maxLen; omega) (by omega) (by have := hB.size; simp; omega) ?_; intro v' w1 hown' hgrow _; obtain ⟨g', cap', rfl⟩ := ownsRow_succ hown'; obtain ⟨hv1, hv2, hr2, hk2, hb2⟩ := hv.appended (by decide) hrow hB.size (Nat.le_refl _) hown' hgrow; have hc1 := hv1.cell; have hf1 := hv1.frozen)
    exact ⟨hk2.from _, hb2, ⟨_, hv2, by simpa using hr2, by simp⟩, hB.trans hb2⟩
  case done =>
    rintro D ys W hD rfl ⟨⟨v, hv, hrow, hnil⟩, hB⟩ hK
    have hc := hv.cell
    gi_wp2
    refine ⟨by simp, .inl ⟨_, _, rfl, run_takeDeferred hK, ?_⟩⟩
    exact ⟨_, results_tmp rfl _ _ _, v, rfl, ownsRow_putObj hrow _ hK rfl, hnil, hB.trans (belowK_b (w := w) (Nat.le_refl _) W D _ _ (by simp at hD; omega) hK rfl rfl)⟩
  case stop =>
    rintro D c pre W _ _ h _
    exact h.elim
set_option maxHeartbeats 1000000 in
theorem collect_any (Bs : Nat) (sv : Value) (zs : List Int) (hlen : zs.length ≤ 1048576) (w : World) (hBs : Bs < w.heap.size) (hc : w.cell? ⟨Bs, 0, none⟩ = some sv) (hI : IntsAt w.heap.size w sv zs) :
    Calls Tryz.prog 147 #[.func (.func 149) #[] #[.pointer (some ⟨Bs, 0, none⟩)]] w fun e W' => ∃ v, e = .returned v ∧ W'.ownsRow w.heap.size 2 1 v zs.length (zs.map (Value.int .i64)) ∧ (v = .slice none 0 0 ↔ zs = []) ∧ Below w.heap.size w W' := by
  have HA := Lib.hid (appendSeq_any Bs sv zs hlen w hBs hc hI)
  clear hBs hc hI
  go_enter Tryz.func147, Tryz.ntmps147
  go_wp2_with fail
  refine HA.out.mono ?_
  rintro e W ⟨v, rfl, h1, h2, h3⟩
  have H := Lib.hid (And.intro h1 (And.intro h2 h3))
  clear h1 h2 h3
  go_wp2
  go_ret
  exact ⟨v, rfl, H.out⟩
/- slices.Sorted(slices.Values(list)), and whether a list is a permutation of 0 .. n-1: the program's way and the reference's. -/
open Go.RowKit Go.Sort
set_option maxHeartbeats 2000000 in
theorem sorted_any (Bs : Nat) (sv : Value) (zs : List Int) (hlen : zs.length ≤ 1048576) (w : World) (hBs : Bs < w.heap.size) (hc : w.cell? ⟨Bs, 0, none⟩ = some sv) (hI : IntsAt w.heap.size w sv zs) :
    Calls Tryz.prog 118 #[.func (.func 149) #[] #[.pointer (some ⟨Bs, 0, none⟩)]] w fun e W' => ∃ v, e = .returned v ∧ BldI W' w.heap.size W'.heap.size v (srt zs) ∧ Below w.heap.size w W' := by
  have HA := Lib.hid (collect_any Bs sv zs hlen w hBs hc hI)
  have HS := Lib.hid (fun (blk off cap : Nat) (w : World) (hH : Holds (Value.int .i64) w blk off zs.toArray) (hblk : blk < w.heap.size) => Tryz.slices_Sort_int blk off cap zs w hH hblk (by omega))
  have HS0 := Lib.hid (fun (p : Option Addr) (cap : Nat) (w : World) => Tryz.slices_Sort_int_none p cap w)
  have hls := length_srt zs
  have HLS := Lib.hid hls
  clear hBs hc hI hls
  go_enter Tryz.func118, Tryz.ntmps118
  go_wp2_with fail
  refine HA.out.mono ?_
  rintro e W ⟨v, rfl, hrow, hnil, hb⟩
  rcases hrow.2 with ⟨rfl, hz⟩ | ⟨gb, cap, cur, rfl, hbase, hgb, r1, r2, r3, r4⟩
  · have hss : zs = [] := List.eq_nil_of_length_eq_zero hz
    subst hss
    have H := Lib.hid (And.intro hrow hb)
    clear hrow hb hnil hz
    go_wp2_with fail
    refine (HS0.out _ _ _).mono ?_
    rintro e w' ⟨rfl, rfl⟩
    go_wp2
    go_ret
    obtain ⟨hrow, hb⟩ := H.out
    exact ⟨_, rfl, ⟨Nat.le_refl _, by simpa [icells, srt] using hrow, by intro g h; cases h⟩, hb⟩
  · have hH : Holds (Value.int .i64) W gb 0 zs.toArray := holds_of_block_i hgb (by simpa using r4)
    have hgl : gb < W.heap.size := (Array.getElem?_eq_some_iff.1 hgb).1
    have cS := Lib.hid (HS.out gb 0 cap W hH hgl)
    have H := Lib.hid (And.intro hrow (And.intro hb (And.intro hgb (And.intro r3 r4))))
    have HN := Lib.hid (And.intro hbase (And.intro r1 r2))
    clear hrow hb hgb r3 r4 hnil hH hbase r1 r2
    go_wp2_with fail
    refine cS.out.mono ?_
    rintro e w' ⟨rfl, nn, os, rfl⟩
    obtain ⟨hrow, hb, hgb, r3, r4⟩ := H.out
    obtain ⟨hbase, r1, r2⟩ := HN.out
    have hR : (grow (putRow (Value.int .i64) (Sort.ahead W nn) gb 0 ((zs.mergeSort fun x y => decide (x ≤ y)).toArray)) os).ownsRow w.heap.size 2 1 (.slice (some ⟨gb, 0, none⟩) zs.length cap) zs.length ((srt zs).map (Value.int .i64)) := ownsRow_sorted_i (n := nn) (os := os) (ts := srt zs) HLS.out hbase hgb r1 r2 r3
    have hB : Below w.heap.size w (grow (putRow (Value.int .i64) (Sort.ahead W nn) gb 0 ((zs.mergeSort fun x y => decide (x ≤ y)).toArray)) os) := hb.grown (grownBy_sorted_i (n := nn) (os := os) (srt zs).toArray) hb.size (fun j hj => by cases hj; exact hbase)
    have HR := Lib.hid (And.intro hR hB)
    generalize hW : grow (putRow (Value.int .i64) (Sort.ahead W nn) gb 0 ((zs.mergeSort fun x y => decide (x ≤ y)).toArray)) os = W2 at *
    clear hrow hb hgb r3 r4 hbase r1 r2 hR hB hW
    go_wp2
    go_ret
    obtain ⟨hR, hB⟩ := HR.out
    refine ⟨_, rfl, ⟨Nat.le_refl _, ?_, fun g hg => hR.lt g hg⟩, hB⟩
    rw [HLS.out]
    exact hR
def keepI (zs : List Int) : Nat → List Int
  | 0 => []
  | k + 1 => match zs[k]? with
    | none => keepI zs k
    | some z => if zs[k - 1]? = some z ∧ 0 < k then keepI zs k else keepI zs k ++ [z]
theorem keepI_same {zs : List Int} {k : Nat} {p q : Int} (hp : zs[k + 1]? = some p) (hq : zs[k]? = some q) (h : p = q) : keepI zs (k + 2) = keepI zs (k + 1) := by
  show (match zs[k + 1]? with | none => _ | some z => _) = _
  rw [hp]
  simp [hq, h]
theorem keepI_new {zs : List Int} {k : Nat} {p q : Int} (hp : zs[k + 1]? = some p) (hq : zs[k]? = some q) (h : p ≠ q) : keepI zs (k + 2) = keepI zs (k + 1) ++ [p] := by
  show (match zs[k + 1]? with | none => _ | some z => _) = _
  rw [hp]
  simp [hq, Ne.symm h]
theorem keepI_one {zs : List Int} : keepI zs 1 = zs.take 1 := by
  cases zs <;> simp [keepI]
theorem keepI_ddp (zs : List Int) : ∀ k, k ≤ zs.length → keepI zs k = ddp (zs.take k)
  | 0, _ => rfl
  | 1, _ => by rw [keepI_one]; cases zs <;> simp [ddp, ddpA]
  | k + 2, hk => by
    have ih := keepI_ddp zs (k + 1) (by omega)
    obtain ⟨p, hp⟩ : ∃ p, zs[k + 1]? = some p := ⟨zs[k + 1], List.getElem?_eq_getElem (by omega)⟩
    obtain ⟨q, hq⟩ : ∃ q, zs[k]? = some q := ⟨zs[k], List.getElem?_eq_getElem (by omega)⟩
    have hl : (zs.take (k + 1)).getLast? = some q := by
      rw [List.getLast?_eq_getElem?, List.length_take, show min (k + 1) zs.length - 1 = k by omega, List.getElem?_take_of_lt (by omega), hq]
    rw [take_snoc_of zs (k + 1) p hp, ddp_snoc hl]
    by_cases h : p = q
    · rw [keepI_same hp hq h, if_pos h, ih]
    · rw [keepI_new hp hq h, if_neg h, ih]
def CompIPost (blk cap : Nat) (zs : List Int) (w : World) (e : Ending) (w' : World) : Prop :=
  ∃ (ds : Array Value), e = .returned (.slice (some ⟨blk, 0, none⟩) (ddp zs).length cap) ∧ Blk w' blk ds 2 ∧ (∀ (i : Nat) z, (ddp zs)[i]? = some z → ds[i]? = some (.int .i64 z)) ∧ Within blk (blk + 1) w w' ∧ (ddp zs).length ≤ zs.length
theorem length_ddpA {α : Type} [DecidableEq α] (p : α) (l : List α) : (ddpA p l).length ≤ l.length := by
  induction l generalizing p with
  | nil => simp [ddpA]
  | cons a l ih =>
    unfold ddpA
    split
    · have := ih a; simp; omega
    · have := ih a; simp; omega
theorem length_ddp {α : Type} [DecidableEq α] (l : List α) : (ddp l).length ≤ l.length := by
  cases l with
  | nil => simp [ddp]
  | cons a l => have := length_ddpA a l; simp [ddp]; omega
set_option maxRecDepth 100000 in
set_option maxHeartbeats 2000000 in
theorem compactI_any (blk cap : Nat) (zs : List Int) (w : World) (cs : Array Value) (hB : Blk w blk cs 2)
    (hc : ∀ (i : Nat) z, zs[i]? = some z → cs[i]? = some (.int .i64 z)) (hn : zs.length ≤ 1000000) (hcap : zs.length ≤ cap) (hmx : cap ≤ maxLen) :
    Calls Tryz.prog 178 #[.slice (some ⟨blk, 0, none⟩) zs.length cap] w (CompIPost blk cap zs w) := by
  obtain ⟨PP, hPP⟩ : ∃ P, CompIPost blk cap zs w = P := ⟨_, rfl⟩
  rw [hPP]
  have HPP := Lib.hid hPP
  clear hPP
  unfold maxLen at hmx
  by_cases h2 : zs.length < 2
  · have hs : ddp zs = zs := by
      match zs, h2 with
      | [], _ => rfl
      | [p], _ => rfl
    have hl : (zs.length : Int) < 2 := by omega
    have HS := Lib.hid hs
    have HC := Lib.hid hc
    clear hs hc
    go_enter Tryz.func178, Tryz.ntmps178
    go_wp2
    rw [← HPP.out]
    exact ⟨cs, by rw [HS.out]; rfl, hB, by rw [HS.out]; exact HC.out, Within.refl _ _ _, length_ddp zs⟩
  · have hl : ¬ (zs.length : Int) < 2 := by omega
    have HC := Lib.hid hc
    have HD := Lib.hid (keepI_ddp zs zs.length (Nat.le_refl _))
    have HK1 := Lib.hid (show keepI zs (0 + 1) = zs.take (0 + 1) from keepI_one)
    have HKS := Lib.hid (fun k p q => @keepI_same zs k p q)
    have HKN := Lib.hid (fun k p q => @keepI_new zs k p q)
    have HTS := Lib.hid (fun k p h => take_snoc_of zs k p h)
    have hBl := hB.lt
    have hBc := hB.cell
    clear hc
    go_enter Tryz.func178, Tryz.ntmps178
    go_wp2
    go_loopw [3] (fun i wr => ∃ m n : Nat, m + 1 ≤ zs.length ∧ i = .int .i64 ((m : Int) + 1) ∧ Hid (keepI zs (m + 1) = zs.take (m + 1)) ∧ wr = w.drewN n) (fun i _ => zs.length - (intOf i).toNat)
    case atStart => exact ⟨0, 0, by omega, rfl, HK1, rfl⟩
    case round =>
      obtain ⟨m, n, hm, rfl, HKT, rfl⟩ := hrel
      by_cases hlt : m + 1 < zs.length
      · obtain ⟨p, hp⟩ : ∃ p, zs[m + 1]? = some p := ⟨zs[m + 1], List.getElem?_eq_getElem hlt⟩
        obtain ⟨q, hq⟩ : ∃ q, zs[m]? = some q := ⟨zs[m], List.getElem?_eq_getElem (by omega)⟩
        have c1 : w.cell? ⟨blk, m + 1, none⟩ = some (.int .i64 p) := (hBc _).trans (HC.out _ p hp)
        have c2 : w.cell? ⟨blk, m, none⟩ = some (.int .i64 q) := (hBc _).trans (HC.out _ q hq)
        have HP := Lib.hid hp
        have HQ := Lib.hid hq
        have i1 : (0 : Int) ≤ (m : Int) := by omega
        have i2 : (m : Int) < (zs.length : Int) := by omega
        have i3 : (m : Int) + 1 < (zs.length : Int) := by omega
        have i4 : (0 : Int) ≤ (m : Int) + 1 := by omega
        have wr1 : IntKind.i64.wrap (m : Int) = m := by simp [IntKind.wrap, IntKind.bits, IntKind.signed]; omega
        clear hp hq hBc
        by_cases hxy : p = q
        · have HXY := Lib.hid hxy
          have e1 : (p == q) = true := by simpa using hxy
          have HK0 := Lib.hid (show keepI zs (m + 2) = zs.take (m + 1) by rw [HKS.out m _ _ HP.out HQ.out hxy, HKT.out])
          have i5 : (m : Int) + 1 ≤ (zs.length : Int) := by omega
          have i6 : (m : Int) + 1 ≤ (cap : Int) := by omega
          clear hxy
          go_wp2_with fail
          go_quiet (fail)
          go_wp2
          obtain ⟨wo, hwo⟩ : ∃ wo : World, wo = w.drewN (n + nq) := ⟨_, rfl⟩
          have hWo : Within blk (blk + 1) w wo := by rw [hwo]; exact (Within.refl _ _ _).drewN _
          have hBo : Blk wo blk cs 2 := by rw [hwo]; exact hB
          (try rw [← hwo])
          have HK0L := Lib.hid (show (keepI zs (m + 2)).length = m + 1 by rw [HK0.out, List.length_take]; omega)
          have HD0 := Lib.hid (show ∀ (i : Nat) p, (keepI zs (m + 2))[i]? = some p → cs[i]? = some (.int .i64 p) from fun i p h => by
            rw [HK0.out] at h
            have hi : i < m + 1 := by have := (List.getElem?_eq_some_iff.1 h).1; simp at this; omega
            rw [List.getElem?_take_of_lt hi] at h
            exact HC.out i p h)
          clear hwo c1 c2 HP HQ HXY HK0 HKT hB hBl e1
          go_loopw [3, 5] (fun i j wr => ∃ k q : Nat, k ≤ m + 1 + q ∧ m + 2 + q ≤ zs.length ∧ i = .int .i64 (k : Int) ∧ j = .int .i64 ((q : Int) + 1) ∧ Hid ((keepI zs (m + 2 + q)).length = k) ∧
            (∃ ds : Array Value, Blk wr blk ds 2 ∧ ds.size = cs.size ∧ Hid (∀ (i : Nat) p, (keepI zs (m + 2 + q))[i]? = some p → ds[i]? = some (.int .i64 p)) ∧ Hid (∀ (i : Nat) p, m + 1 + q ≤ i → zs[i]? = some p → ds[i]? = some (.int .i64 p))) ∧ Within blk (blk + 1) w wr) (fun _ j _ => zs.length - (intOf j).toNat)
          case atStart => exact ⟨m + 1, 0, by omega, by omega, by go_num, by go_num, HK0L, ⟨cs, hBo, rfl, HD0, Lib.hid (fun i p _ h => HC.out i p h)⟩, hWo⟩
          case round =>
            clear HK0L hBo hWo HD0
            obtain ⟨k, q, hkq, hql, rfl, rfl, HKL, ⟨ds, hB, HZ, HDA, HDB⟩, hW⟩ := hrel
            have hBl := hB.lt
            by_cases hlt2 : m + 2 + q < zs.length
            · obtain ⟨p, hp⟩ : ∃ p, zs[m + 2 + q]? = some p := ⟨zs[m + 2 + q], List.getElem?_eq_getElem hlt2⟩
              obtain ⟨p', hq⟩ : ∃ p, zs[m + 1 + q]? = some p := ⟨zs[m + 1 + q], List.getElem?_eq_getElem (by omega)⟩
              have c1 : wr.cell? ⟨blk, m + 1 + (q + 1), none⟩ = some (.int .i64 p) := (hB.cell _).trans (HDB.out _ p (by omega) (by rw [← hp]; congr 1; omega))
              have c2 : wr.cell? ⟨blk, m + 1 + q, none⟩ = some (.int .i64 p') := (hB.cell _).trans (HDB.out _ p' (by omega) hq)
              have HP := Lib.hid (show zs[(m + 1 + q) + 1]? = some p by rw [← hp]; congr 1; omega)
              have HQ := Lib.hid hq
              have j1 : (0 : Int) ≤ (q : Int) + 1 := by omega
              have j0 : (0 : Int) ≤ (q : Int) := by omega
              have j2 : (q : Int) + 1 < ((zs.length - (m + 1) : Nat) : Int) := by omega
              have j3 : (q : Int) < ((zs.length - (m + 1) : Nat) : Int) := by omega
              have wr2 : IntKind.i64.wrap (q : Int) = q := by simp [IntKind.wrap, IntKind.bits, IntKind.signed]; omega
              have k1 : (0 : Int) ≤ (k : Int) := by omega
              have k2 : (k : Int) < (zs.length : Int) := by omega
              have HZH := Lib.hid HZ
              clear hp hq HZ
              by_cases hxy : p = p'
              · have HSM := Lib.hid (show keepI zs (m + 2 + (q + 1)) = keepI zs (m + 2 + q) by
                  have := HKS.out (m + 1 + q) _ _ HP.out HQ.out hxy
                  rw [show m + 1 + q + 2 = m + 2 + (q + 1) by omega, show m + 1 + q + 1 = m + 2 + q by omega] at this
                  exact this)
                have e2 : (p == p') = true := by simpa using hxy
                have e3 : (p != p') = false := by simpa using hxy
                clear hxy
                go_wp2_with fail
                go_quiet (fail)
                go_wp2
                exact ⟨⟨k, q + 1, by omega, by omega, rfl, by go_num, Lib.hid (by rw [HSM.out]; exact HKL.out), ⟨ds, hB, HZH.out, Lib.hid (by rw [HSM.out]; exact HDA.out), Lib.hid (fun i p hi h => HDB.out i p (by omega) h)⟩, hW.drewN _⟩, by simp [intOf]; omega⟩
              · have HSM := Lib.hid (show keepI zs (m + 2 + (q + 1)) = keepI zs (m + 2 + q) ++ [p] by
                  have := HKN.out (m + 1 + q) _ _ HP.out HQ.out hxy
                  rw [show m + 1 + q + 2 = m + 2 + (q + 1) by omega, show m + 1 + q + 1 = m + 2 + q by omega] at this
                  exact this)
                have e2 : (p == p') = false := by simpa using hxy
                have e3 : (p != p') = true := by simpa using hxy
                have hkc : k < cs.size := by
                  have hk' : k < zs.length := by omega
                  exact (Array.getElem?_eq_some_iff.1 (HC.out k _ (List.getElem?_eq_getElem hk'))).1
                obtain ⟨u0, t0⟩ : ∃ u, wr.cell? ⟨blk, k, none⟩ = some u := ⟨ds[k]'(by have := HZH.out; omega), by rw [hB.cell]; exact Array.getElem?_eq_getElem _⟩
                have fB := hB.free
                have HKC := Lib.hid hkc
                clear hkc hxy
                go_wp2_with fail
                go_quiet (fail)
                go_wp2
                refine ⟨⟨k + 1, q + 1, by omega, by omega, by go_num, by go_num, Lib.hid (by rw [HSM.out, List.length_append, HKL.out]; rfl), ⟨ds.setIfInBounds k (.int .i64 p), (hB.drewN _).set k _, by simp [HZH.out], Lib.hid (fun i p h => ?_), Lib.hid (fun i p hi h => ?_)⟩, (hW.drewN _).set blk _ _ (Nat.le_refl _) (by omega)⟩, by simp [intOf]; omega⟩
                · rw [HSM.out] at h
                  rw [Array.getElem?_setIfInBounds]
                  by_cases e : k = i
                  · subst e
                    rw [List.getElem?_append_right (by rw [HKL.out]; exact Nat.le_refl _), HKL.out] at h
                    simp at h
                    subst h
                    rw [if_pos rfl, if_pos (by have := HKC.out; have := HZH.out; omega)]
                  · rw [if_neg e]
                    have hi : i < k := by
                      have := (List.getElem?_eq_some_iff.1 h).1
                      rw [List.length_append, HKL.out] at this
                      simp at this; omega
                    rw [List.getElem?_append_left (by rw [HKL.out]; exact hi)] at h
                    exact HDA.out i p h
                · rw [Array.getElem?_setIfInBounds, if_neg (by omega)]
                  exact HDB.out i p (by omega) h
            · have HQL := Lib.hid (show m + 2 + q = zs.length by omega)
              have j2 : ¬ (q : Int) + 1 < ((zs.length - (m + 1) : Nat) : Int) := by have := HQL.out; omega
              have k1 : (0 : Int) ≤ (k : Int) := by omega
              have k2 : (k : Int) ≤ (zs.length : Int) := by omega
              have k3 : (k : Int) ≤ (cap : Int) := by omega
              have hBc := hB.cell
              have hBf := hB.free
              have hcl := fun ty => Lib.run_clear_slice (P := Tryz.prog) wr 27 2 ty (.int .i64 0) Tryz.underlying27 (fun w => by kernel_rfl) (by kernel_rfl) rfl blk k (zs.length - k) (cap - k) (by omega) (fun j hj => by
                rw [hBc]
                have hk' : k + j < zs.length := by omega
                have := (Array.getElem?_eq_some_iff.1 (HC.out (k + j) _ (List.getElem?_eq_getElem hk'))).1
                rw [Array.getElem?_eq_getElem (by omega)]; rfl) (fun j hj => hBf _)
              obtain ⟨ds', hB', he', hW'⟩ := Blk.setCells blk (List.replicate (zs.length - k) (Value.int .i64 0)) k wr ds hB
              generalize wr.setCells blk k (List.replicate (zs.length - k) (Value.int .i64 0)) = w9 at *
              clear hBc hBf
              go_wp2
              rw [← HPP.out]
              have hdd := HD.out
              rw [List.take_length] at hdd
              refine ⟨ds', by rw [← hdd, ← HQL.out, HKL.out], hB', fun i p h => ?_, hW.on hW', length_ddp zs⟩
              rw [← hdd, ← HQL.out] at h
              have hi : i < k := by have := (List.getElem?_eq_some_iff.1 h).1; rwa [HKL.out] at this
              rw [he' i hi]
              exact HDA.out i p h
        · have HXY := Lib.hid hxy
          have e1 : (p == q) = false := by simpa using hxy
          clear hxy
          go_wp2_with fail
          go_quiet (fail)
          go_wp2
          refine ⟨⟨m + 1, _, by omega, by go_num, Lib.hid ?_, by first | rfl | exact World.drewN_drewN _ _ _⟩, by simp [intOf]; omega⟩
          rw [HKN.out m _ _ HP.out HQ.out HXY.out, HKT.out, HTS.out _ _ HP.out]
      · have HL := Lib.hid (show zs.length = m + 1 by omega)
        go_wp2
        rw [← HPP.out]
        have h1 := HD.out
        rw [List.take_length] at h1
        refine ⟨cs, ?_, hB, ?_, (Within.refl _ _ _).drewN n, length_ddp zs⟩
        · rw [← h1, HL.out, HKT.out, ← HL.out, List.take_length]
          rfl
        · rw [← h1, HL.out, HKT.out, ← HL.out, List.take_length]
          exact HC.out
/- The number of different numbers of a list: the plain part. -/
def fstTo (zs : List Int) : Nat → List Int
  | 0 => []
  | k + 1 => match zs[k]? with
    | none => fstTo zs k
    | some z => if z ∈ zs.take k then fstTo zs k else fstTo zs k ++ [z]
def difI (zs : List Int) : Nat := (fstTo zs zs.length).length
theorem fstTo_old {zs : List Int} {k : Nat} {z : Int} (h : zs[k]? = some z) (hm : z ∈ zs.take k) : fstTo zs (k + 1) = fstTo zs k := by
  show (match zs[k]? with | none => _ | some z => _) = _
  rw [h]
  simp only [if_pos hm]
theorem fstTo_new {zs : List Int} {k : Nat} {z : Int} (h : zs[k]? = some z) (hm : ¬ z ∈ zs.take k) : fstTo zs (k + 1) = fstTo zs k ++ [z] := by
  show (match zs[k]? with | none => _ | some z => _) = _
  rw [h]
  simp only [if_neg hm]
theorem mem_fstTo {zs : List Int} {x : Int} : ∀ k, k ≤ zs.length → (x ∈ fstTo zs k ↔ x ∈ zs.take k)
  | 0, _ => by simp [fstTo]
  | k + 1, hk => by
    obtain ⟨z, hz⟩ : ∃ z, zs[k]? = some z := ⟨zs[k], List.getElem?_eq_getElem (by omega)⟩
    have ih := mem_fstTo (zs := zs) (x := x) k (by omega)
    rw [take_snoc_of zs k z hz, List.mem_append, List.mem_singleton]
    by_cases hm : z ∈ zs.take k
    · rw [fstTo_old hz hm, ih]
      exact ⟨.inl, fun h => h.elim id (fun e => e ▸ hm)⟩
    · rw [fstTo_new hz hm, List.mem_append, List.mem_singleton, ih]
theorem nodup_fstTo {zs : List Int} : ∀ k, k ≤ zs.length → (fstTo zs k).Nodup
  | 0, _ => by simp [fstTo]
  | k + 1, hk => by
    obtain ⟨z, hz⟩ : ∃ z, zs[k]? = some z := ⟨zs[k], List.getElem?_eq_getElem (by omega)⟩
    have ih := nodup_fstTo (zs := zs) k (by omega)
    by_cases hm : z ∈ zs.take k
    · rw [fstTo_old hz hm]; exact ih
    · rw [fstTo_new hz hm, List.nodup_append]
      refine ⟨ih, by simp, fun a ha b hb => ?_⟩
      simp at hb
      subst hb
      intro e
      subst e
      exact hm ((mem_fstTo k (by omega)).1 ha)
theorem length_fstTo (zs : List Int) : ∀ k, (fstTo zs k).length ≤ k
  | 0 => by simp [fstTo]
  | k + 1 => by
    have ih := length_fstTo zs k
    show (match zs[k]? with | none => _ | some z => _ : List Int).length ≤ _
    split
    · omega
    · split
      · omega
      · simp; omega
theorem difI_le (zs : List Int) : difI zs ≤ zs.length := length_fstTo zs _
theorem ddpA_lt (p : Int) (l : List Int) (h : (p :: l).Pairwise (fun a b => a ≤ b)) : (p :: ddpA p l).Pairwise (fun a b => a < b) := by
  induction l generalizing p with
  | nil => simp [ddpA]
  | cons b l ih =>
    rw [List.pairwise_cons] at h
    have hb := ih b h.2
    unfold ddpA
    by_cases e : b = p
    · subst e; rw [if_pos rfl]; exact hb
    · rw [if_neg e, List.pairwise_cons]
      refine ⟨fun a ha => ?_, hb⟩
      have hpb : p ≤ b := h.1 b (by simp)
      rcases List.mem_cons.1 ha with rfl | ha
      · omega
      · have := (List.pairwise_cons.1 hb).1 a ha
        omega
theorem ddp_lt {l : List Int} (h : l.Pairwise (fun a b => a ≤ b)) : (ddp l).Pairwise (fun a b => a < b) := by
  cases l with
  | nil => simp [ddp]
  | cons a l => exact ddpA_lt a l h
theorem srt_le (zs : List Int) : (srt zs).Pairwise (fun a b => a ≤ b) := (srt_pairwise zs).imp (fun h => by simpa using h)
theorem difI_srt (zs : List Int) : (ddp (srt zs)).length = difI zs := by
  refine (perm_of_mem _ _ ?_ (nodup_fstTo zs.length (Nat.le_refl _)) (fun z => ?_)).length_eq
  · exact (ddp_lt (srt_le zs)).imp (fun h => by omega)
  · rw [mem_ddp, mem_fstTo _ (Nat.le_refl _), List.take_length]
    exact (srt_perm zs).mem_iff
/- How many different numbers: the reference's and the program's. -/
set_option maxRecDepth 100000 in
set_option maxHeartbeats 2000000 in
theorem l29Different_any (sv : Value) (zs : List Int) (w : World) (h : IntSl w sv zs) (hl : zs.length ≤ 1000000) :
    Calls Tryz.prog 139 #[sv] w fun e w' => e = .returned (.int .i64 (difI zs)) ∧ ∃ n, w' = w.drewN n := by
  have H := Lib.hid h
  have HLE := Lib.hid (fun k => length_fstTo zs k)
  have HOLD := Lib.hid (fun k z => @fstTo_old zs k z)
  have HNEW := Lib.hid (fun k z => @fstTo_new zs k z)
  have HTK := Lib.hid (fun k z h => take_snoc_of zs k z h)
  have HD := Lib.hid (show difI zs = (fstTo zs zs.length).length from rfl)
  have HF0 := Lib.hid (show fstTo zs 0 = [] from rfl)
  obtain ⟨D, hD⟩ : ∃ D, difI zs = D := ⟨_, rfl⟩
  rw [hD] at HD ⊢
  obtain ⟨a, c, rfl⟩ := h.len
  clear h hD
  go_enter Tryz.func139, Tryz.ntmps139
  go_wp2
  go_loopw [3, 4, 5, 6] (fun s i _ _ wr => ∃ k n : Nat, k ≤ zs.length ∧ i = .int .i64 k ∧ s = .int .i64 ((fstTo zs k).length : Int) ∧ wr = w.drewN n) (fun _ i _ _ _ => zs.length - (intOf i).toNat)
  case atStart => exact ⟨0, 0, Nat.zero_le _, rfl, by rw [HF0.out]; rfl, rfl⟩
  case round =>
    obtain ⟨k, n, hk, rfl, rfl, rfl⟩ := hrel
    by_cases hlt : k < zs.length
    · obtain ⟨z, hz⟩ : ∃ z, zs[k]? = some z := ⟨zs[k], List.getElem?_eq_getElem hlt⟩
      rcases H.out with ⟨_, _, _, e2⟩ | ⟨b, off, cap, he, h2, h3, h4⟩
      · rw [e2] at hz; simp at hz
      obtain ⟨rfl, rfl⟩ : a = some ⟨b, off, none⟩ ∧ c = cap := by simpa using he
      have HC := Lib.hid h4
      have c1 := h4 k z hz
      have HZ := Lib.hid hz
      have i1 : (0 : Int) ≤ (k : Int) := by omega
      have i2 : (k : Int) < (zs.length : Int) := by omega
      have hle := HLE.out k
      obtain ⟨F, hF⟩ : ∃ F, fstTo zs k = F := ⟨_, rfl⟩
      have HFF := Lib.hid hF
      rw [hF] at hle ⊢
      clear h4 he hz hF
      go_wp2
      go_loopw [5, 6] (fun f j wr => ∃ q n : Nat, q ≤ k ∧ j = .int .i64 q ∧ f = .bool (decide (¬ z ∈ zs.take q)) ∧ wr = w.drewN n) (fun _ j _ => k - (intOf j).toNat)
      case atStart => exact ⟨0, n, Nat.zero_le _, rfl, by simp, rfl⟩
      case round =>
        obtain ⟨q, n2, hq, rfl, rfl, rfl⟩ := hrel
        by_cases hlq : q < k
        · obtain ⟨y, hy⟩ : ∃ y, zs[q]? = some y := ⟨zs[q]'(by omega), List.getElem?_eq_getElem _⟩
          have c2 := HC.out q y hy
          have HT := Lib.hid (HTK.out q y hy)
          have j1 : (0 : Int) ≤ (q : Int) := by omega
          have j2 : (q : Int) < (zs.length : Int) := by omega
          have j3 : (q : Int) < (k : Int) := by omega
          clear hy
          by_cases hm : z ∈ zs.take q
          · have hf : decide (¬ z ∈ zs.take q) = false := by simpa using hm
            have HF := Lib.hid (show decide (¬ z ∈ zs.take (q + 1)) = false by rw [HT.out]; simp [hm])
            rw [hf]
            clear hm hf
            go_wp2_with fail
            go_quiet (fail)
            go_wp2
            exact ⟨⟨q + 1, _, by omega, by go_num, by rw [HF.out], by first | rfl | exact World.drewN_drewN _ _ _⟩, by simp [intOf]; omega⟩
          · have hf : decide (¬ z ∈ zs.take q) = true := by simpa using hm
            rw [hf]
            by_cases hyz : y = z
            · have e1 : (y == z) = true := by simpa using hyz
              have e2 : (y != z) = false := by simpa using hyz
              have HF := Lib.hid (show decide (¬ z ∈ zs.take (q + 1)) = false by rw [HT.out]; simp [hyz])
              clear hm hf hyz
              go_wp2_with fail
              go_quiet (fail)
              go_wp2
              exact ⟨⟨q + 1, _, by omega, by go_num, by rw [HF.out], by first | rfl | exact World.drewN_drewN _ _ _⟩, by simp [intOf]; omega⟩
            · have e1 : (y == z) = false := by simpa using hyz
              have e2 : (y != z) = true := by simpa using hyz
              have HF := Lib.hid (show decide (¬ z ∈ zs.take (q + 1)) = true by rw [HT.out]; simp [hm, Ne.symm hyz])
              clear hm hf hyz
              go_wp2_with fail
              go_quiet (fail)
              go_wp2
              exact ⟨⟨q + 1, _, by omega, by go_num, by rw [HF.out], by first | rfl | exact World.drewN_drewN _ _ _⟩, by simp [intOf]; omega⟩
        · obtain rfl : q = k := by omega
          by_cases hm : z ∈ zs.take q
          · have hf : decide (¬ z ∈ zs.take q) = false := by simpa using hm
            have HE := Lib.hid (HOLD.out q z HZ.out hm)
            rw [hf]
            clear hm hf
            go_wp2
            exact ⟨⟨q + 1, n2, by omega, by go_num, by rw [HE.out, HFF.out], rfl⟩, by simp [intOf]; omega⟩
          · have hf : decide (¬ z ∈ zs.take q) = true := by simpa using hm
            have HE := Lib.hid (HNEW.out q z HZ.out hm)
            rw [hf]
            clear hm hf
            go_wp2
            exact ⟨⟨q + 1, n2, by omega, by go_num, by rw [HE.out, HFF.out, List.length_append]; go_num, rfl⟩, by simp [intOf]; omega⟩
    · obtain rfl : k = zs.length := by omega
      rw [← HD.out]
      go_wp2
      go_ret
      exact ⟨rfl, n, rfl⟩
set_option maxRecDepth 100000 in
set_option maxHeartbeats 1000000 in
theorem compactN_any (c : Nat) (w : World) :
    Calls Tryz.prog 178 #[.slice none 0 c] w fun e w' => e = .returned (.slice none 0 c) ∧ w = w' := by
  go_enter Tryz.func178, Tryz.ntmps178
  go_wp2
  go_ret
  exact ⟨rfl, rfl⟩
theorem compactB_any (lo hi : Nat) (v : Value) (ws : List Int) (w : World) (h : BldI w lo hi v ws) (hn : ws.length ≤ 1000000) :
    Calls Tryz.prog 178 #[v] w fun e w' => ∃ v', e = .returned v' ∧ IntSl w' v' (ddp ws) ∧ Within lo hi w w' := by
  obtain ⟨hs, ⟨hlen, r⟩, h3⟩ := h
  rcases r with ⟨rfl, r2⟩ | ⟨g, cap, cur, rfl, e2, e3, e4, e5, e6, e7⟩
  · have hw : ws = [] := List.eq_nil_of_length_eq_zero r2
    subst hw
    refine (compactN_any 0 w).mono ?_
    rintro e w' ⟨rfl, rfl⟩
    exact ⟨_, rfl, .inl ⟨_, _, rfl, rfl⟩, Within.refl _ _ _⟩
  · have hg := h3 g rfl
    simp only [Nat.mul_one] at e6 e7
    refine (compactI_any g cap ws w cur e3 (fun i z hz => ?_) hn e4 e5).mono ?_
    · have hi : i < ws.length := (List.getElem?_eq_some_iff.1 hz).1
      have : (icells ws)[i]? = some (.int .i64 z) := by simp [icells, hz]
      rw [← e7, List.getElem?_take_of_lt hi] at this
      simpa using this
    · rintro e w' ⟨ds, rfl, hB, hd, hW, hle⟩
      refine ⟨_, rfl, .inr ⟨g, 0, cap, rfl, by omega, by (first | exact e5 | (unfold maxLen at e5; omega)), fun i x hx => ?_⟩, hW.sub (by omega) (by omega)⟩
      rw [Nat.zero_add, hB.cell]
      exact hd i x hx
set_option maxRecDepth 100000 in
set_option maxHeartbeats 2000000 in
theorem different_any (sv : Value) (zs : List Int) (w : World) (h : IntSl w sv zs) (hl : zs.length ≤ 1000000) :
    Calls Tryz.prog 157 #[sv] w fun e w' => e = .returned (.int .i64 (difI zs)) ∧ Below w.heap.size w w' := by
  have H := Lib.hid h
  have HSO := Lib.hid (fun Bs sv w h1 h2 h3 => sorted_any Bs sv zs (by omega) w h1 h2 h3)
  obtain ⟨ws, hws⟩ : ∃ ws, srt zs = ws := ⟨_, rfl⟩
  have hwl : ws.length ≤ 1000000 := by rw [← hws, length_srt]; exact hl
  have HCM := Lib.hid (fun lo hi v w h => compactB_any lo hi v ws w h hwl)
  have hdd := difI_srt zs
  rw [hws] at HSO hdd
  rw [← hdd]
  obtain ⟨a, c, rfl⟩ := h.len
  obtain ⟨DD, hDD⟩ : ∃ DD, ddp ws = DD := ⟨_, rfl⟩
  rw [hDD] at HCM ⊢
  clear h hws hdd hDD
  go_enter Tryz.func157, Tryz.ntmps157
  go_wp2_with (first | (go_at_call 119; refine (values_any _ _ _ _).mono ?_; rintro e w' ⟨rfl, rfl⟩) | (go_at_call 118; refine (HSO.out w.heap.size (.slice a zs.length c) _ (by simp) ((Blk.new (cs := #[.slice a zs.length c]) (T := 27) w.heap.size rfl : Blk (w.alloc _) w.heap.size _ _).cell 0) ((H.out.by ((Below.refl _ w).alloc (Nat.le_refl _) _)).at)).mono ?_; rintro e w1 ⟨v, rfl, hB, hb⟩; obtain ⟨a1, c1, rfl⟩ := hB.sized; have HB := Lib.hid hB; have Hb := Lib.hid hb; clear hB hb) | (go_at_call 178; refine (HCM.out _ _ _ _ HB.out).mono ?_; rintro e w2 ⟨v2, rfl, hI2, hw2⟩; obtain ⟨a2, c2, rfl⟩ := hI2.len; have HW2 := Lib.hid hw2; clear hI2 hw2))
  go_ret
  refine ⟨rfl, ?_⟩
  have h1 := Hb.out
  have h2 : Below w.heap.size w w1 := below_on h1 ((Below.refl _ w).alloc (Nat.le_refl _) _)
  exact HW2.out.below h2 (by simp)
def cntC (c : List Int × List Int) : Int := (difI c.1 : Int) + (difI c.2 : Int)
set_option maxRecDepth 100000 in
set_option maxHeartbeats 2000000 in
theorem l29Count_any (c : List Int × List Int) (u : Value) (w : World) (h : CoV w u c) (h1 : c.1.length ≤ 1000000) (h2 : c.2.length ≤ 1000000) :
    Calls Tryz.prog 101 #[u] w fun e w' => e = .returned (.int .i64 (cntC c)) ∧ Below w.heap.size w w' := by
  obtain ⟨s1, s2, rfl, hc1, hc2⟩ := h
  have H1 := Lib.hid (fun w h => l29Different_any s1 c.1 w h h1)
  have H2 := Lib.hid (fun w h => l29Different_any s2 c.2 w h h2)
  have HC1 := Lib.hid hc1
  have HC2 := Lib.hid hc2
  obtain ⟨a, ca, rfl⟩ := hc1.len
  obtain ⟨a', ca', rfl⟩ := hc2.len
  have hd1 := difI_le c.1
  have hd2 := difI_le c.2
  unfold cntC
  generalize difI c.1 = D1 at *
  generalize difI c.2 = D2 at *
  have hw : IntKind.i64.wrap ((D1 : Int) + (D2 : Int)) = (D1 : Int) + (D2 : Int) := by simp [IntKind.wrap, IntKind.bits, IntKind.signed]; omega
  clear hc1 hc2
  go_enter Tryz.func101, Tryz.ntmps101
  go_wp2_with fail
  have kC : Blk (w.alloc (.cells #[.slice a c.1.length ca, .slice a' c.2.length ca'] 81)) w.heap.size #[.slice a c.1.length ca, .slice a' c.2.length ca'] 81 := Blk.new _ rfl
  have qC := kC.cell
  go_region_held3 ((fun w' => (Blk w' (w.heap.size) #[.slice a c.1.length ca, .slice a' c.2.length ca'] 81 ∧ ∀ o, w'.cell? ⟨w.heap.size, o, none⟩ = (#[.slice a c.1.length ca, .slice a' c.2.length ca'] : Array Value)[o]?) ∧ Below w.heap.size w w')) (((try (obtain ⟨⟨hS0, _⟩, hSB⟩ := hHeld)); refine ⟨Blk.both ?_, ?_⟩ <;> first | ((repeat (first | (with_reducible assumption) | (with_reducible refine Blk.drewN ?_ _) | (with_reducible refine Blk.drew ?_) | ((with_reducible refine Blk.new _ ?_); focus (first | omega | (simp; done) | (simp; omega))) | (with_reducible refine Blk.past ?_ _) | ((with_reducible refine Blk.apart ?_ _ _ _ ?_); rotate_left; focus (first | omega | (simp; done) | (simp; omega))) | (with_reducible refine Blk.by (by assumption) ?_))); done) | ((repeat (first | (with_reducible exact Below.refl _ _) | (with_reducible refine below_drewN ?_ _) | (with_reducible refine Below.drew ?_) | (with_reducible refine below_al ?_ _) | (with_reducible refine below_on (by assumption) ?_) | ((with_reducible refine Below.setCell ?_ ?_ _); rotate_left; focus (first | omega | (simp; done) | (simp; omega))) | (with_reducible assumption))); done)))
    (first | (go_at_call_of 139 (Value.slice a c.1.length ca); refine (H1.out _ (HC1.out.by blwT)).mono ?_; rintro e w1 ⟨rfl, n1, rfl⟩) | (go_at_call_of 139 (Value.slice a' c.2.length ca'); refine (H2.out _ (HC2.out.by blwT)).mono ?_; rintro e w2 ⟨rfl, n2, rfl⟩))
  all_goals go_wp2
  all_goals go_ret
  all_goals exact ⟨ret_i64 (by first | exact hw | rfl), blwT⟩
set_option maxRecDepth 100000 in
set_option maxHeartbeats 2000000 in
theorem colorCount_any (c : List Int × List Int) (u : Value) (w : World) (h : CoV w u c) (h1 : c.1.length ≤ 1000000) (h2 : c.2.length ≤ 1000000) :
    Calls Tryz.prog 133 #[u] w fun e w' => e = .returned (.int .i64 (cntC c)) ∧ Below w.heap.size w w' := by
  obtain ⟨s1, s2, rfl, hc1, hc2⟩ := h
  have H1 := Lib.hid (fun w h => different_any s1 c.1 w h h1)
  have H2 := Lib.hid (fun w h => different_any s2 c.2 w h h2)
  have HC1 := Lib.hid hc1
  have HC2 := Lib.hid hc2
  obtain ⟨a, ca, rfl⟩ := hc1.len
  obtain ⟨a', ca', rfl⟩ := hc2.len
  have hd1 := difI_le c.1
  have hd2 := difI_le c.2
  unfold cntC
  generalize difI c.1 = D1 at *
  generalize difI c.2 = D2 at *
  have hw : IntKind.i64.wrap ((D1 : Int) + (D2 : Int)) = (D1 : Int) + (D2 : Int) := by simp [IntKind.wrap, IntKind.bits, IntKind.signed]; omega
  clear hc1 hc2
  go_enter Tryz.func133, Tryz.ntmps133
  go_wp2_with fail
  have kC : Blk (w.alloc (.cells #[.slice a c.1.length ca, .slice a' c.2.length ca'] 81)) w.heap.size #[.slice a c.1.length ca, .slice a' c.2.length ca'] 81 := Blk.new _ rfl
  have qC := kC.cell
  go_region_held3 ((fun w' => (Blk w' (w.heap.size) #[.slice a c.1.length ca, .slice a' c.2.length ca'] 81 ∧ ∀ o, w'.cell? ⟨w.heap.size, o, none⟩ = (#[.slice a c.1.length ca, .slice a' c.2.length ca'] : Array Value)[o]?) ∧ Below w.heap.size w w')) (((try (obtain ⟨⟨hS0, _⟩, hSB⟩ := hHeld)); refine ⟨Blk.both ?_, ?_⟩ <;> first | ((repeat (first | (with_reducible assumption) | (with_reducible refine Blk.drewN ?_ _) | (with_reducible refine Blk.drew ?_) | ((with_reducible refine Blk.new _ ?_); focus (first | omega | (simp; done) | (simp; omega))) | (with_reducible refine Blk.past ?_ _) | ((with_reducible refine Blk.apart ?_ _ _ _ ?_); rotate_left; focus (first | omega | (simp; done) | (simp; omega))) | (with_reducible refine Blk.by (by assumption) ?_))); done) | ((repeat (first | (with_reducible exact Below.refl _ _) | (with_reducible refine below_drewN ?_ _) | (with_reducible refine Below.drew ?_) | (with_reducible refine below_al ?_ _) | (with_reducible refine below_on (by assumption) ?_) | ((with_reducible refine Below.setCell ?_ ?_ _); rotate_left; focus (first | omega | (simp; done) | (simp; omega))) | (with_reducible assumption))); done)))
    (first | (go_at_call_of 157 (Value.slice a c.1.length ca); refine (H1.out _ (HC1.out.by blwT)).mono ?_; rintro e w1 ⟨rfl, hb1⟩; (try (refine with_fact (p := Blk w1 (w.heap.size) #[.slice a c.1.length ca, .slice a' c.2.length ca'] 81) (Blk.by hb1 ?_) ?_; (focus ((repeat (first | (with_reducible assumption) | (with_reducible refine Blk.drewN ?_ _) | (with_reducible refine Blk.drew ?_) | ((with_reducible refine Blk.new _ ?_); focus (first | omega | (simp; done) | (simp; omega))) | (with_reducible refine Blk.past ?_ _) | ((with_reducible refine Blk.apart ?_ _ _ _ ?_); rotate_left; focus (first | omega | (simp; done) | (simp; omega))) | (with_reducible refine Blk.by (by assumption) ?_))); done)); intro k3; have c3' := k3.cell))) | (go_at_call_of 157 (Value.slice a' c.2.length ca'); refine (H2.out _ (HC2.out.by blwT)).mono ?_; rintro e w2 ⟨rfl, hb2⟩))
  all_goals go_wp2
  all_goals go_ret
  all_goals exact ⟨ret_i64 (by first | exact hw | rfl), blwT⟩
end Go.Proofs.YtifbffianbgeaaaGreat
