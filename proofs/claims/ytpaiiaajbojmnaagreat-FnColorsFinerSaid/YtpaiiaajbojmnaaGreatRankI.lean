/- The program's ranks. -/
import Derived.Test.YtpaiiaajbojmnaaGreatSorts
import Derived.Test.YtpaiiaajbojmnaaGreatOrdB
import Derived.Deep.DeepCutAuto
import Derived.Test.YtpaiiaajbojmnaaGreatIntB
import Derived.Test.YtpaiiaajbojmnaaGreatShelf
namespace Go.Proofs.YtpaiiaajbojmnaaGreat
open Go.RowKit
set_option linter.unusedVariables false
set_option linter.unusedSimpArgs false

/-- A slice of slices of the call's own: its cells, with what they hold. -/
def LlBlk (w : World) (g : Nat) (ps : List (Value × List Int)) : Prop := ∃ cs : Array Value, Blk w g cs 28 ∧ ∀ (i : Nat) p, ps[i]? = some p → cs[i]? = some p.1

set_option maxRecDepth 100000 in
theorem cloneL_any (ls : List (List Int)) (b off n c : Nat) (w : World) (h : LlSl w (.slice (some ⟨b, off, none⟩) n c) ls) (hn : ls.length ≤ 1000000) :
    Calls Tryz.prog 53 #[.slice (some ⟨b, off, none⟩) n c] w fun e w' => ∃ (g cap : Nat) (ps : List (Value × List Int)), e = .returned (.slice (some ⟨g, 0, none⟩) ls.length cap) ∧ ps.map (·.2) = ls ∧ (∀ p ∈ ps, IntSl w p.1 p.2) ∧ w.heap.size ≤ g ∧ LlBlk w' g ps ∧ ls.length ≤ cap ∧ cap ≤ maxLen ∧ Below w.heap.size w w' := by
  obtain ⟨i0, hi0, hz0, hz1, hz2⟩ := info_parts infoL
  have key : ∃ vs : List Value, vs.length = ls.length ∧ (∀ (j : Nat) u, vs[j]? = some u → w.cell? ⟨b, off + j, none⟩ = some u) ∧ ∀ (i : Nat) s xs, vs[i]? = some s → ls[i]? = some xs → IntSl w s xs := by
    rcases h with ⟨a, c', e, rfl⟩ | ⟨b', off', cap', e, h1, h2, h3⟩
    · exact ⟨[], rfl, by simp, by simp⟩
    · simp only [Value.slice.injEq, Option.some.injEq, Addr.mk.injEq, and_true] at e
      obtain ⟨⟨rfl, rfl⟩, e2, rfl⟩ := e
      have hch : ∀ i : Fin ls.length, ∃ s, w.cell? ⟨b, off + i, none⟩ = some s ∧ IntSl w s ls[i] := fun i => h3 i ls[i] (List.getElem?_eq_getElem i.2)
      refine ⟨List.ofFn fun i => Classical.choose (hch i), by simp, fun j u hu => ?_, fun i s xs hs hx => ?_⟩
      · rw [List.getElem?_ofFn] at hu
        split at hu
        · rename_i hj
          cases hu
          exact (Classical.choose_spec (hch ⟨j, hj⟩)).1
        · cases hu
      · rw [List.getElem?_ofFn] at hs
        split at hs
        · rename_i hj
          cases hs
          have h5 := (Classical.choose_spec (hch ⟨i, hj⟩)).2
          rw [List.getElem?_eq_getElem hj] at hx
          cases hx
          exact h5
        · cases hs
  have hnl : n = ls.length := by
    obtain ⟨a, c', e⟩ := h.sized
    simp at e; exact e.2.1
  subst hnl
  obtain ⟨vs, k1, k2, k3⟩ := key
  have hone : ∀ u ∈ vs, u.oneCell' = true := fun u hu => by
    obtain ⟨i, hi, e⟩ := List.mem_iff_getElem.1 hu
    exact (k3 i u (ls[i]'(by omega)) (by rw [List.getElem?_eq_getElem hi, e]) (List.getElem?_eq_getElem _)).one
  have hcon := Tryz.slices_Clone i0 _ 1 24 hi0 hz0 hz1 hz2 rfl (by decide) (fun w => by kernel_rfl) b off ls.length c vs w (by omega) (by unfold maxLen; omega) (by omega) k2 hone
  refine hcon.mono ?_
  rintro e w' ⟨v', rfl, ⟨hl, hrow⟩, hne, hb⟩
  rcases hrow with ⟨rfl, _⟩ | ⟨g, cap, cur, rfl, hg, hblk, hc1, hc2, hc3, hc4⟩
  · exact absurd rfl hne
  refine ⟨g, cap, vs.zip ls, rfl, by rw [List.map_snd_zip (by omega)], fun p hp => ?_, hg, ⟨cur, hblk, fun i p hp => ?_⟩, hc1, hc2, hb⟩
  · obtain ⟨i, hi, e⟩ := List.mem_iff_getElem.1 hp
    have hi' : i < vs.length ∧ i < ls.length := by simp at hi; omega
    rw [List.getElem_zip] at e
    rw [← e]
    exact k3 i _ _ (List.getElem?_eq_getElem hi'.1) (List.getElem?_eq_getElem hi'.2)
  · have hi : i < (vs.zip ls).length := (List.getElem?_eq_some_iff.1 hp).1
    have hi' : i < vs.length ∧ i < ls.length := by simp at hi; omega
    rw [List.getElem?_eq_getElem hi, List.getElem_zip] at hp
    cases hp
    have h6 : (cur.toList.take (ls.length * 1))[i]? = some vs[i] := by rw [hc4, List.getElem?_eq_getElem hi'.1]
    rw [List.getElem?_take_of_lt (by omega)] at h6
    simpa using h6
end Go.Proofs.YtpaiiaajbojmnaaGreat

/- The program's ranks: the walk. -/
namespace Go.Proofs.YtpaiiaajbojmnaaGreat
open Go.RowKit
set_option linter.unusedVariables false
set_option linter.unusedSimpArgs false

theorem LlBlk.ll {w' : World} {g cap : Nat} {ps : List (Value × List Int)} (h : LlBlk w' g ps) (he : ∀ p ∈ ps, IntSl w' p.1 p.2) (hcap : ps.length ≤ cap) (hmx : cap ≤ maxLen) : LlSl w' (.slice (some ⟨g, 0, none⟩) ps.length cap) (ps.map (·.2)) := by
  obtain ⟨cs, hB, hc⟩ := h
  refine .inr ⟨g, 0, cap, by rw [List.length_map], by rw [List.length_map]; exact hcap, hmx, fun i xs hx => ?_⟩
  rw [List.getElem?_map] at hx
  obtain ⟨p, hp, rfl⟩ := Option.map_eq_some_iff.1 hx
  exact ⟨p.1, by rw [Nat.zero_add, hB.cell]; exact hc i p hp, he p (List.mem_of_getElem? hp)⟩

set_option maxRecDepth 100000 in
set_option maxHeartbeats 2000000 in
theorem implRanks_some (ls : List (List Int)) (b off n c : Nat) (w : World) (h : LlSl w (.slice (some ⟨b, off, none⟩) n c) ls) (hn : ls.length ≤ 1000) :
    Calls Tryz.prog 28 #[.slice (some ⟨b, off, none⟩) n c] w fun e w' => ∃ v, e = .returned v ∧ OwnR w' w.heap.size w'.heap.size v (rankS ls) ∧ Below w.heap.size w w' := by
  have eg1 : ∀ args w, (callFunc 55 args).run Tryz.prog w = .ok (.enter 55 args) w := enters_of Tryz.func55 (by kernel_rfl) rfl
  have eg2 : ∀ args w, (callFunc 58 args).run Tryz.prog w = .ok (.enter 58 args) w := enters_of Tryz.func58 (by kernel_rfl) rfl
  have eg3 : ∀ args w, (callFunc 61 args).run Tryz.prog w = .ok (.enter 61 args) w := enters_of Tryz.func61 (by kernel_rfl) rfl
  have HCL := Lib.hid (cloneL_any ls b off n c w h (by omega))
  have HS := Lib.hid (fun blk cap ps w cs hB hc he hn => sortFuncL_any 55 eg1 (fun W s1 s2 xs ys h h' => ranks1_any s1 s2 xs ys W h h') blk cap ps w cs hB hc he hn)
  have HCM := Lib.hid (fun blk cap ps w cs hB hc he hn h1 h2 => compactFuncL_any 58 eg2 (fun W s1 s2 xs ys h h' => ranks2_any s1 s2 xs ys W h h') blk cap ps w cs hB hc he hn h1 h2)
  have HIX := Lib.hid (fun lb p s0 xs w h hp => indexFuncL_any 61 lb eg3 p s0 xs w h hp)
  have HL := Lib.hid h
  have hnl : n = ls.length := by
    obtain ⟨a, c', e⟩ := h.sized
    simp at e; exact e.2.1
  subst hnl
  clear h eg1 eg2 eg3
  go_enter Tryz.func28, Tryz.ntmps28
  go_wp2_with fail
  refine HCL.out.mono ?_
  rintro e w1 ⟨g, cap, ps, rfl, hps, hpe, hgl, ⟨cs, hB, hc⟩, hcap, hmx, hb1⟩
  have hpl : ps.length = ls.length := by rw [← hps, List.length_map]
  have old1 : ∀ k, k < w.heap.size → w1.heap[k]? = w.heap[k]? := fun k hk => hb1.block k hk
  have HSC := Lib.hid (HS.out g cap ps w1 cs hB hc (fun p hp => ⟨(hpe p hp).one, fun w' ho => (hpe p hp).old (fun k hk => (ho k (by have := hb1.size; omega) (by omega)).trans (old1 k hk))⟩) (by omega))
  rw [hpl] at HSC
  have HPE := Lib.hid hpe
  have HPS := Lib.hid hps
  have HPL := Lib.hid hpl
  clear hB hc hpe hps hpl HS
  go_wp2_with fail
  refine HSC.out.mono ?_
  rintro e w2 ⟨rfl, qs, ds, hperm, hsort, hB2, hsz2, hc2, hW2⟩
  have hql : qs.length = ls.length := by rw [hperm.length_eq]; exact HPL.out
  have hqe : ∀ p ∈ qs, IntSl w p.1 p.2 := fun p hp => HPE.out p (hperm.mem_iff.1 hp)
  have old2 : ∀ k, k < w.heap.size → w2.heap[k]? = w.heap[k]? := fun k hk => (hW2.block k (by have := hb1.size; omega) (by omega)).trans (old1 k hk)
  have hb2 : Below w.heap.size w w2 := hW2.below hb1 hgl
  have HCC := Lib.hid (HCM.out g cap qs w2 ds hB2 hc2 (fun p hp => ⟨(hqe p hp).one, fun w' ho => (hqe p hp).old (fun k hk => (ho k (by have := hb2.size; omega) (by omega)).trans (old2 k hk))⟩) (by omega) (by omega) hmx)
  rw [hql] at HCC
  have HSO := Lib.hid (show (qs.map (·.2)).Pairwise (fun a b => lcmp a b ≤ 0) by rw [List.pairwise_map]; exact hsort)
  have HQP := Lib.hid (show ∀ z, z ∈ qs.map (·.2) ↔ z ∈ ls by
    intro z
    rw [← HPS.out]
    exact (hperm.map _).mem_iff)
  have HQE := Lib.hid hqe
  have HQL := Lib.hid hql
  clear HCL HSC hperm hsort hB2 hc2 hql hqe HPE HPS HPL HCM hsz2 old1
  go_wp2_with fail
  refine HCC.out.mono ?_
  rintro e w3 ⟨rs, es, rfl, hdd, hmem, hB3, hc3, hW3, hrq⟩
  have hb3 : Below w.heap.size w w3 := hW3.below hb2 hgl
  have old3 : ∀ k, k < w.heap.size → w3.heap[k]? = w.heap[k]? := fun k hk => hb3.block k hk
  have hrl : rs.length ≤ ls.length := by have := HQL.out; omega
  have hLD : LlSl w3 (.slice (some ⟨g, 0, none⟩) rs.length cap) (ddp (qs.map (·.2))) := by
    rw [← hdd]
    exact LlBlk.ll ⟨es, hB3, hc3⟩ (fun p hp => (HQE.out p (hmem p hp)).old old3) (by omega) hmx
  have HLD := Lib.hid hLD
  have HPR := Lib.hid (show ∀ x, x ∈ ls → fidx (fun y => decide (y = x)) (ddp (qs.map (·.2))) = rankOf ls x from fun x hx => place_rank (ddp_sorted HSO.out) (fun z => (mem_ddp _ _).trans (HQP.out z)) hx)
  have HL3 := Lib.hid (HL.out.by hb3)
  generalize ddp (qs.map (·.2)) = D at *
  have HTK := Lib.hid (fun k x (h : ls[k]? = some x) => show (rankS ls).take (k + 1) = (rankS ls).take k ++ [(rankOf ls x : Int)] from take_snoc_of (rankS ls) k _ (by simp [rankS, h]))
  have HLR := Lib.hid (length_rankS ls)
  have hrb : ∀ x, rankOf ls x ≤ ls.length := fun x => rankTo_le ls x _
  have HRB := Lib.hid hrb
  clear hLD HCC hdd hmem hB3 hc3 hW3 HSO HQP HQE HQL hb2 old2 old3 hW2 hb1 HL hrq hrb
  have hbs3 := hb3.size
  go_wp2
  go_loopw [4, 16] (fun v i wr => ∃ (k hi : Nat), k ≤ ls.length ∧ i = .int .i64 k ∧ Hid (BldI wr w3.heap.size hi v ((rankS ls).take k)) ∧ w3.heap.size ≤ hi ∧ Below w3.heap.size w3 wr) (fun _ i _ => ls.length - (intOf i).toNat)
  case atStart =>
    refine ⟨0, w3.heap.size + 1, Nat.zero_le _, rfl, Lib.hid ?_, by omega, (by ((repeat (first | (with_reducible exact Below.refl _ _) | (with_reducible refine below_drewN ?_ _) | (with_reducible refine Below.drew ?_) | (with_reducible refine below_al ?_ _) | (with_reducible refine below_on (by assumption) ?_) | ((with_reducible refine Below.setCell ?_ ?_ _); rotate_left; focus (first | omega | (simp; done) | (simp; omega))) | (with_reducible assumption))); done))⟩
    have hB : Blk (w3.alloc (.cells #[] 2)) w3.heap.size #[] 2 := Blk.new _ rfl
    exact BldI.lit (zs := []) hB rfl (by simp) (Nat.le_refl _) (by omega) (by simp)
  case round =>
    obtain ⟨k, hi, hk, rfl, HB, hhi, hb⟩ := hrel
    have hml : ((rankS ls).take k).length = k := by rw [List.length_take, HLR.out]; omega
    obtain ⟨av, cv, rfl⟩ := HB.out.sized
    rw [hml] at HB ⊢
    have HML := Lib.hid hml
    have hbs := hb.size
    clear hml
    by_cases hlt : k < ls.length
    · obtain ⟨x, hx⟩ : ∃ x, ls[k]? = some x := ⟨ls[k], List.getElem?_eq_getElem hlt⟩
      rcases HL3.out.by hb with ⟨_, _, _, e2⟩ | ⟨b', off', cap', he, _, _, hcc⟩
      · rw [e2] at hlt; simp at hlt
      obtain ⟨⟨rfl, rfl⟩, rfl⟩ : (b = b' ∧ off = off') ∧ c = cap' := by simpa using he
      obtain ⟨s, c1, hS⟩ := hcc k x hx
      have HSX := Lib.hid hS
      have HX := Lib.hid hx
      have HTX := Lib.hid (HTK.out k x hx)
      have HRX := Lib.hid (HPR.out x (List.mem_of_getElem? hx))
      have hrx := HRB.out x
      obtain ⟨ax, cx, rfl⟩ := hS.len
      obtain ⟨R, hR⟩ : ∃ R, wr.heap.size = R := ⟨_, rfl⟩
      obtain ⟨wA, hwA⟩ : ∃ wA, wA = wr.alloc (.cells #[.slice ax x.length cx] 28) := ⟨_, rfl⟩
      have hal : Below wr.heap.size wr wA := by rw [hwA]; exact (Below.refl _ wr).alloc (Nat.le_refl _) _
      have kX : Blk wA R #[.slice ax x.length cx] 28 := by rw [hwA]; exact Blk.new _ hR.symm
      have hCI := HIX.out #[.pointer (some ⟨R, 0, none⟩)] (fun y => decide (y = x)) (.slice (some ⟨g, 0, none⟩) rs.length cap) D wA ((HLD.out.by hb).by hal) (fun W y sv hbW hy hSy => ranks3_any sv (.slice ax x.length cx) y x R W hSy ((HSX.out.by hal).by hbW) (by rw [(Blk.by hbW kX).cell]; rfl))
      rw [HRX.out] at hCI
      have HCI := Lib.hid hCI
      have HWA := Lib.hid hwA
      have i1 : (0 : Int) ≤ (k : Int) := by omega
      have i2 : (k : Int) < (ls.length : Int) := by omega
      generalize rankOf ls x = rk at *
      clear hx he hcc hS hCI hwA
      go_wp2_with fail
      rw [← HWA.out]
      (try rw [hR])
      refine HCI.out.mono ?_
      rintro e w4 ⟨rfl, hb4⟩
      have hb5 : Below wr.heap.size wr w4 := below_on hb4 hal
      have HB4 := Lib.hid (HB.out.by hb5)
      have hb6 : Below w3.heap.size w3 w4 := below_on hb5 hb
      have hs4 := hb5.size
      clear hb4 hb5 hal kX HCI
      go_wp2_with (refine list_pushI (by rfl) _ _ (by rfl) w3.heap.size hi _ _ [(rk : Int)] (by rfl) (HB4.out.by (by ((repeat (first | (with_reducible exact Below.refl _ _) | (with_reducible refine below_drewN ?_ _) | (with_reducible refine Below.drew ?_) | (with_reducible refine below_al ?_ _) | (with_reducible refine below_on (by assumption) ?_) | ((with_reducible refine Below.setCell ?_ ?_ _); rotate_left; focus (first | omega | (simp; done) | (simp; omega))) | (with_reducible assumption))); done))) w4.heap.size 1 #[.int .i64 (rk : Int)] (by rfl) (by rfl) (by omega) (Blk.new _ rfl) (by rfl) hhi (by rw [HML.out]; omega) ?_; intro a2 c2' w5 hB5 hw5; have HB5 := Lib.hid hB5; rw [HML.out]; clear hB5)
      have hsz := hw5.size
      simp only [World.size_alloc] at hsz
      refine ⟨⟨k + 1, w5.heap.size, by omega, by go_num, Lib.hid ?_, by omega, hw5.below (below_al hb6 _) (by omega)⟩, by simp [intOf]; omega⟩
      rw [HTX.out]
      have := HB5.out
      rw [HML.out] at this
      exact this
    · obtain rfl : k = ls.length := by omega
      have hBD := HB.out
      rw [List.take_of_length_le (by rw [HLR.out]; exact Nat.le_refl _)] at hBD
      have HBD := Lib.hid hBD
      clear hBD HB
      go_wp2
      go_ret
      refine ⟨_, rfl, OwnR.wide' HBD.out.own (by omega) HBD.out.1, ?_⟩
      exact hb3.trans (hb.mono (by omega))
end Go.Proofs.YtpaiiaajbojmnaaGreat

/- The program's ranks: one contract. -/
namespace Go.Proofs.YtpaiiaajbojmnaaGreat
open Go.RowKit
set_option linter.unusedVariables false
set_option linter.unusedSimpArgs false

set_option maxRecDepth 100000 in
set_option maxHeartbeats 2000000 in
theorem implRanks_none (c : Nat) (w : World) :
    Calls Tryz.prog 28 #[.slice none 0 c] w fun e w' => ∃ v, e = .returned v ∧ OwnR w' w.heap.size w'.heap.size v (rankS []) ∧ Below w.heap.size w w' := by
  have HCL := Lib.hid (Tryz.slices_Clone_nil 0 c w)
  have HSN := Lib.hid (fun fv w => Tryz.slices_SortFunc_none (α := Nat) none 0 fv w)
  have HCM : Hid (∀ fv w, Calls Tryz.prog 57 #[.slice none 0 0, fv] w fun e w' => e = .returned (.slice none 0 0) ∧ w' = w) := by
    apply Lib.hid
    intro fv w
    go_enter Tryz.func57, Tryz.ntmps57
    go_wp2
    go_ret
    exact ⟨rfl, rfl⟩
  go_enter Tryz.func28, Tryz.ntmps28
  go_wp2_with fail
  refine HCL.out.mono ?_
  rintro e w1 ⟨rfl, rfl⟩
  go_wp2_with fail
  refine (HSN.out _ _).mono ?_
  rintro e w2 ⟨rfl, rfl⟩
  go_wp2_with fail
  refine (HCM.out _ _).mono ?_
  rintro e w3 ⟨rfl, rfl⟩
  go_wp2
  go_loopw [4, 16] (fun v i wr => i = .int .i64 0 ∧ (∃ c, v = .slice c 0 0) ∧ Below w3.heap.size w3 wr) (fun _ _ _ => 0)
  case atStart => exact ⟨rfl, ⟨_, rfl⟩, (by ((repeat (first | (with_reducible exact Below.refl _ _) | (with_reducible refine below_drewN ?_ _) | (with_reducible refine Below.drew ?_) | (with_reducible refine below_al ?_ _) | (with_reducible refine below_on (by assumption) ?_) | ((with_reducible refine Below.setCell ?_ ?_ _); rotate_left; focus (first | omega | (simp; done) | (simp; omega))) | (with_reducible assumption))); done))⟩
  case round =>
    obtain ⟨rfl, ⟨cc, rfl⟩, hb⟩ := hrel
    go_wp2
    go_ret
    exact ⟨_, rfl, .inl ⟨_, _, rfl, rfl⟩, hb⟩

theorem implRanks_any (ls : List (List Int)) (sv : Value) (w : World) (h : LlSl w sv ls) (hf : (∃ c, sv = .slice none 0 c) ∨ ∃ b n c, sv = .slice (some ⟨b, 0, none⟩) n c) (hn : ls.length ≤ 1000) :
    Calls Tryz.prog 28 #[sv] w fun e w' => ∃ v, e = .returned v ∧ OwnR w' w.heap.size w'.heap.size v (rankS ls) ∧ Below w.heap.size w w' := by
  rcases hf with ⟨c, rfl⟩ | ⟨b, n, c, rfl⟩
  · have : ls = [] := by
      obtain ⟨a, c', e⟩ := h.sized
      simp at e
      exact List.eq_nil_of_length_eq_zero e.2.1.symm
    subst this
    exact implRanks_none c w
  · exact implRanks_some ls b 0 n c w h hn
end Go.Proofs.YtpaiiaajbojmnaaGreat
