/- slices.Concat at []int64. -/
import Derived.Test.YtpaiiaajbojmnaaGreatOrdB
import Derived.Test.YtpaiiaajbojmnaaGreatRank0
import Derived.Test.YtpaiiaajbojmnaaGreatIntB
import Derived.Lib.AppendZerosOnto
namespace Go.Proofs.YtpaiiaajbojmnaaGreat
open Go.RowKit Go.Lib
set_option linter.unusedVariables false
set_option linter.unusedSimpArgs false

set_option maxRecDepth 100000 in
set_option maxHeartbeats 2000000 in
theorem growI_nil (n : Nat) (hn : 0 < n) (hb : n ≤ 1000000) (w : World) :
    Calls Tryz.prog 79 #[.slice none 0 0, .int .i64 (n : Int)] w fun e w' => ∃ a c, e = .returned (.slice a 0 c) ∧ BldI w' w.heap.size w'.heap.size (.slice a 0 c) [] ∧ Below w.heap.size w w' := by
  obtain ⟨i0, hi0, hz0, hz1, hz2⟩ := info_parts infoI
  have hold : (Builtin.firstCells i0.size 0 (.slice none 0 0)).run Tryz.prog w.drew = .ok #[] w.drew := run_firstCells_none w.drew i0.size 0 0 0
  obtain ⟨G, hG⟩ : ∃ G, G = grownCap w n 0 2 := ⟨_, rfl⟩
  have hG1 : n ≤ G := by rw [hG]; exact grownCap_ge w _ _ _
  have hG2 : G ≤ maxLen := by rw [hG]; exact grownCap_le_maxLen w _ _ _ (by unfold maxLen; omega)
  have hrz : ∀ ty, ∃ cs : Array Value, cs.size = G ∧ (Builtin.append_ #[28, 3] ty #[.slice none 0 0, .int .i64 (n : Int)]).run Tryz.prog w = .ok (.slice (some ⟨w.heap.size, 0, none⟩) n G) (w.drew.alloc (.cells cs 2)) := fun ty => by
    have h := Lib.run_append_grow_zeros w 28 3 ty 2 i0 _ .i64 .i64 Tryz.underlying28 Tryz.underlying3 hi0 hz0 none 0 0 [] hold n (by omega) (by omega) (by omega) (by omega)
      (by rw [hz2]; omega) (by rw [Nat.zero_add]; exact growslice_fits hn (by rw [hz2]; omega))
    rw [Nat.zero_add, ← hG] at h
    refine ⟨_, ?_, h⟩
    simp [size_zeroCells, hz1, Value.cells]
    omega
  have h1 : ¬ ((n : Int) < 0) := by omega
  have h3 : wrap64 (n : Int) = (n : Int) := by unfold wrap64; omega
  have h4 : ((n : Int)) > 0 := by omega
  have hG63 : G ≤ 9223372036854775807 := by unfold maxLen at hG2; omega
  obtain ⟨cs, hcs, hrun⟩ := hrz 28
  have HCS := Lib.hid hcs
  have HGM := Lib.hid hG2
  clear hold hG hrz hcs hG2 hi0 hz0 hz1 hz2
  go_enter Tryz.func79, Tryz.ntmps79
  go_wp2_with (at_builtin; refine Lib.wpList_append_run _ rfl _ _ _ _ rfl _ _ rfl rfl _ _ hrun ?_)
  all_goals
    go_ret
    refine ⟨_, _, rfl, ⟨Nat.le_refl _, ⟨rfl, .inr ⟨w.heap.size, G, cs, rfl, Nat.le_refl _, Blk.new _ rfl, Nat.zero_le _, HGM.out, by rw [HCS.out, Nat.mul_one], by simp [icells]⟩⟩, fun g hg => ?_⟩, (Below.refl _ w).drew.alloc (Nat.le_refl _) _⟩
    have : w.heap.size = g := by injection hg
    simp
    omega

/-- append(out, s...) with s a slice anywhere. -/
theorem list_appendI {ops : Array Oper} {rest : List Oper} {o : Oper} {a : Act} {w : World} {Q : Exit → Act → World → Prop} (hgd : o.guard = none) (s x : Operand)
    (ho : o.op = .call { callee := .builtin .append, args := #[s, x], argTypes := #[28, 28] })
    (lo hi : Nat) (v : Value) (zs ys : List Int) (hs : a.eval s = v) (hB : BldI w lo hi v zs) (b off m c : Nat) (hx : a.eval x = .slice (some ⟨b, off, none⟩) m c) (hys : ys.length = m) (hm : 0 < m)
    (hcs : ∀ (j : Nat) y, ys[j]? = some y → w.cell? ⟨b, off + j, none⟩ = some (.int .i64 y)) (hlo : lo ≤ hi) (hn : zs.length + m ≤ 8000000)
    (hK : ∀ a' c' w', BldI w' lo w'.heap.size (.slice a' (zs.length + m) c') (zs ++ ys) → Within lo hi w w' → wpList Tryz.prog ops Q rest (a.put o.dst (.slice a' (zs.length + m) c')) w') : wpList Tryz.prog ops Q (o :: rest) a w :=
  wpList_plain hgd fun K hk => by
    obtain ⟨i0, hi0, hz0, hz1, hz2⟩ := info_parts infoI
    obtain ⟨hsz, h1, h3⟩ := hB
    have h := step_append_lies (E := False) (Q := Q) (K := K) (ops := ops) w hgd s x 28 ho lo 2 i0 _ 1 8 Tryz.underlying28 hi0 hz0 hz1 hz2 rfl (by decide) v zs.length _ hs h1 ⟨b, off, none⟩ m c (icells ys) hx (by simp [icells, hys]) (by
      intro j u hu
      have hadd : (⟨b, off, none⟩ : Addr).add j = ⟨b, off + j, none⟩ := by unfold Addr.add; split <;> simp_all
      simp only [icells, List.getElem?_map, Option.map_eq_some_iff] at hu
      obtain ⟨y, hy, rfl⟩ := hu
      rw [hadd]
      exact hcs j y hy) (by
      intro u hu
      simp only [icells, List.mem_map] at hu
      obtain ⟨_, _, rfl⟩ := hu
      rfl) hm (by unfold maxLen; omega) (by omega) (by omega) w.heap.size rfl (by
      intro g cap w' hrow hgrow hg hgl
      have hW : Within lo hi w w' := grown_within hgrow h3
      refine hk _ _ (hK (some ⟨g, 0, none⟩) cap w' ⟨Nat.le_refl _, ?_, ?_⟩ hW)
      · rw [List.length_append, hys, icells_push]; exact hrow
      · intro g' hg'
        have : g = g' := by injection hg'
        subst this
        rcases hg with h | h
        · have := h3 g h; omega
        · omega)
    rwa [if_pos (by simp [Region.wanted, hgd])] at h

set_option maxRecDepth 100000 in
set_option maxHeartbeats 2000000 in
theorem concatI_any (ls : List (List Int)) (sv : Value) (w : World) (h : LlSl w sv ls) (h0 : 0 < ls.flatten.length) (hb : ls.flatten.length ≤ 1000000) (hn : ls.length ≤ 1000000) (hne : ∀ xs ∈ ls, 0 < xs.length) :
    Calls Tryz.prog 63 #[sv] w fun e w' => ∃ v', e = .returned v' ∧ OwnR w' w.heap.size w'.heap.size v' ls.flatten ∧ Below w.heap.size w w' := by
  rcases h with ⟨_, _, _, e2⟩ | ⟨b, off, cap, rfl, l1, l2, hc⟩
  · rw [e2] at h0; simp at h0
  have hsum : ∀ (k : Nat) (xs : List Int), ls[k]? = some xs → (ls.take (k + 1)).flatten = (ls.take k).flatten ++ xs := fun k xs hk => by
    rw [take_snoc_of ls k xs hk, List.flatten_append]; simp
  have hle : ∀ k : Nat, (ls.take k).flatten.length ≤ 1000000 := fun k => by
    have h1 : ls.flatten.length = (ls.take k).flatten.length + (ls.drop k).flatten.length := by
      rw [← List.length_append, ← List.flatten_append, List.take_append_drop]
    omega
  have hlast : (ls.take ls.length).flatten = ls.flatten := by rw [List.take_of_length_le (Nat.le_refl _)]
  have hfirst : (ls.take 0).flatten = [] := rfl
  obtain ⟨T, hT⟩ : ∃ T : Nat → List Int, ∀ k, (ls.take k).flatten = T k := ⟨_, fun _ => rfl⟩
  simp only [hT] at hsum hle hlast hfirst
  obtain ⟨Y, hY⟩ : ∃ Y, ls.flatten = Y := ⟨_, rfl⟩
  rw [hY] at hlast h0 hb ⊢
  obtain ⟨n, hn'⟩ : ∃ n, ls.length = n := ⟨_, rfl⟩
  have hcs : ∀ i, i < n → ∃ xs s, ls[i]? = some xs ∧ w.cell? ⟨b, off + i, none⟩ = some s ∧ IntSl w s xs ∧ 0 < xs.length := fun i hi => by
    obtain ⟨s, h1, h2⟩ := hc i _ (List.getElem?_eq_getElem (by omega))
    exact ⟨_, s, List.getElem?_eq_getElem (by omega), h1, h2, hne _ (List.getElem_mem _)⟩
  rw [hn'] at hlast l1 hn ⊢
  have HSUM := Lib.hid hsum
  have HLE := Lib.hid hle
  have HLAST := Lib.hid hlast
  have HF := Lib.hid hfirst
  have HCS := Lib.hid hcs
  have H0 := Lib.hid h0
  have HG := Lib.hid (fun w => growI_nil Y.length h0 hb w)
  clear hsum hle hlast hfirst hcs hT hY hn' hc h0 hne
  have hlenN := l2
  unfold maxLen at hlenN
  go_enter Tryz.func63, Tryz.ntmps63
  go_wp2
  go_loopw [3, 5, 11] (fun t3 t5 t11 wr => ∃ k : Nat, k ≤ n ∧ t11 = .int .i64 k ∧ t3 = .int .i64 ((T k).length : Int) ∧ w = wr) (fun _ _ i _ => n - (intOf i).toNat)
  case atStart => exact ⟨0, Nat.zero_le _, rfl, by rw [HF.out]; rfl, rfl⟩
  case round =>
    obtain ⟨k, hk, rfl, rfl, rfl⟩ := hrel
    by_cases hlt : k < n
    · obtain ⟨xs, s, e1, e2, e3, hxp⟩ := HCS.out k hlt
      obtain ⟨ap, cp, rfl⟩ := e3.len
      have HE := Lib.hid (HSUM.out k xs e1)
      have hl1 := HLE.out k
      have hl2 := HLE.out (k + 1)
      rw [HE.out, List.length_append] at hl2
      have k1 : (0 : Int) ≤ (k : Int) := by omega
      have k2 : (k : Int) < (n : Int) := by omega
      have hz : ¬ (((T k).length : Int) + (xs.length : Int) < 0) := by omega
      have hw : wrap64 (((T k).length : Int) + (xs.length : Int)) = ((T k).length : Int) + (xs.length : Int) := by unfold wrap64; omega
      clear e1 e3
      go_wp2
      refine ⟨⟨k + 1, by omega, by go_num, ?_, by first | trivial | rfl⟩, by simp [intOf]; omega⟩
      rw [HE.out, List.length_append]
      simp
    · obtain rfl : n = k := by omega
      rw [HLAST.out]
      go_wp2_with fail
      refine (HG.out _).mono ?_
      rintro e w1 ⟨ga, gc, rfl, hB, hb1⟩
      have HB := Lib.hid hB
      clear hB
      go_wp2
      go_loopw [6, 8, 27] (fun t6 t8 t27 wr => ∃ (k hi : Nat), k ≤ n ∧ t27 = .int .i64 k ∧ Hid (BldI wr w.heap.size hi t6 (T k)) ∧ w.heap.size ≤ hi ∧ Below w.heap.size w wr) (fun _ _ i _ => n - (intOf i).toNat)
      case atStart => exact ⟨0, w1.heap.size, Nat.zero_le _, rfl, Lib.hid (by rw [HF.out]; exact HB.out), hb1.size, hb1⟩
      case round =>
        clear HB hb1
        obtain ⟨k, hi, hk, rfl, HB, hhi, hbw⟩ := hrel
        obtain ⟨ao, co, rfl⟩ := HB.out.sized
        by_cases hlt : k < n
        · obtain ⟨xs, s, e1, e2, e3, hxp⟩ := HCS.out k hlt
          have e2' := cell_by' hbw e2
          have e3' := e3.by hbw
          have HE := Lib.hid (HSUM.out k xs e1)
          have hl1 := HLE.out k
          have hl2 := HLE.out (k + 1)
          rw [HE.out, List.length_append] at hl2
          have k1 : (0 : Int) ≤ (k : Int) := by omega
          have k2 : (k : Int) < (n : Int) := by omega
          rcases e3' with ⟨_, _, _, e4⟩ | ⟨xb, xo, xc, rfl, x1, x2, x3⟩
          · rw [e4] at hxp; simp at hxp
          have HX3 := Lib.hid x3
          clear e1 e3 e2 x3
          go_wp2_with (refine list_appendI (by rfl) _ _ (by rfl) w.heap.size hi (.slice ao (T k).length co) (T k) xs (by rfl) HB.out xb xo xs.length xc (by rfl) rfl hxp HX3.out hhi (by omega) ?_; intro a4 c4 w4 hB4 hw4; have HB4 := Lib.hid hB4; clear hB4)
          have hs4 := hw4.size
          have hbs := HB.out.1
          refine ⟨⟨k + 1, w4.heap.size, by omega, by go_num, Lib.hid ?_, by omega, hw4.below hbw (by omega)⟩, by simp [intOf]; omega⟩
          rw [HE.out]
          exact HB4.out
        · obtain rfl : n = k := by omega
          rw [HLAST.out] at HB ⊢
          go_wp2
          go_ret
          exact ⟨_, rfl, OwnR.wide' HB.out.own (Nat.le_refl _) HB.out.1, hbw⟩
end Go.Proofs.YtpaiiaajbojmnaaGreat
