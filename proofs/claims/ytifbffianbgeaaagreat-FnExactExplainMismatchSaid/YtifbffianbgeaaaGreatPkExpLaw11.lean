/- Contracts and plain laws, part 11, for the statement's proof. -/
import Derived.Test.YtifbffianbgeaaaGreatPkExpLaw10
import Derived.Deep.DeepCutAuto
import Derived.Deep.CutRange
namespace Go.Proofs.YtifbffianbgeaaaGreat
open Go.RowKit
set_option linter.unusedVariables false
set_option linter.unusedSimpArgs false
section
variable {w w' : World} {g n : Nat} {f : Nat → Int}
def CntB (w : World) (g : Nat) (f : Nat → Int) : Prop := ∃ cs : Array Value, Blk w g cs 163 ∧ cs.size = 24 ∧ ∀ i, i < 24 → cs[i]? = some (Value.int .i64 (f i))
theorem CntB.by (hb : Below w.heap.size w w') (h : CntB w g f) : CntB w' g f := by obtain ⟨cs, h1, h2⟩ := h; exact ⟨cs, Blk.by hb h1, h2⟩
theorem CntB.lt (h : CntB w g f) : g < w.heap.size := by obtain ⟨cs, h1, h2⟩ := h; exact h1.lt
theorem CntB.free (h : CntB w g f) : ∀ o, w.frozen? ⟨g, o, none⟩ = false := by obtain ⟨cs, h1, h2⟩ := h; exact h1.free
theorem CntB.at (h : CntB w g f) {i : Nat} (hi : i < 24) : w.cell? ⟨g, i, none⟩ = some (.int .i64 (f i)) := by obtain ⟨cs, h1, h2, h3⟩ := h; rw [h1.cell]; exact h3 i hi
theorem CntB.cong {f' : Nat → Int} (h : CntB w g f) (e : ∀ i, i < 24 → f' i = f i) : CntB w g f' := by obtain ⟨cs, h1, h2, h3⟩ := h; exact ⟨cs, h1, h2, fun i hi => by rw [e i hi]; exact h3 i hi⟩
theorem CntB.set (h : CntB w g f) {j : Nat} {y : Int} {f' : Nat → Int} (hj : j < 24) (hy : f' j = y) (hf : ∀ i, i ≠ j → f' i = f i) : CntB (w.setCell ⟨g, j, none⟩ (.int .i64 y)) g f' := by
  obtain ⟨cs, h1, h2, h3⟩ := h
  refine ⟨_, h1.set j _, by simpa using h2, fun i hi => ?_⟩
  by_cases e : i = j
  · subst e
    rw [Array.getElem?_setIfInBounds_self_of_lt (by omega), hy]
  · rw [Array.getElem?_setIfInBounds_ne (by omega), h3 i hi, hf i e]
theorem list_all_at {l : List Value} {v : Value} (h : ∀ u ∈ l, u = v) (i : Nat) (hi : i < l.length) : l[i]? = some v := by
  rw [List.getElem?_eq_getElem hi, h _ (List.getElem_mem hi)]
theorem cnt_new {w : World} (cs : Array Value) (hs : cs.toList.length = 24) (hz : ∀ u ∈ cs.toList, u = Value.int .i64 0) : CntB (w.alloc (.cells cs 163)) w.heap.size (fun _ => 0) := by
  refine ⟨_, Blk.new _ rfl, by simpa using hs, fun i hi => ?_⟩
  rw [← Array.getElem?_toList]
  exact list_all_at hz i (by omega)
theorem cnt_z24 (w : World) : CntB (w.alloc (.cells #[.int .i64 0, .int .i64 0, .int .i64 0, .int .i64 0, .int .i64 0, .int .i64 0, .int .i64 0, .int .i64 0, .int .i64 0, .int .i64 0, .int .i64 0, .int .i64 0, .int .i64 0, .int .i64 0, .int .i64 0, .int .i64 0, .int .i64 0, .int .i64 0, .int .i64 0, .int .i64 0, .int .i64 0, .int .i64 0, .int .i64 0, .int .i64 0] 163)) w.heap.size (fun _ => 0) := cnt_new #[.int .i64 0, .int .i64 0, .int .i64 0, .int .i64 0, .int .i64 0, .int .i64 0, .int .i64 0, .int .i64 0, .int .i64 0, .int .i64 0, .int .i64 0, .int .i64 0, .int .i64 0, .int .i64 0, .int .i64 0, .int .i64 0, .int .i64 0, .int .i64 0, .int .i64 0, .int .i64 0, .int .i64 0, .int .i64 0, .int .i64 0, .int .i64 0] rfl (by simp)
end
theorem cnt_sl {w : World} {g : Nat} {f : Nat → Int} (h : CntB w g f) : IntSl w (.slice (some ⟨g, 0, none⟩) 24 24) ((List.range 24).map f) := by
  refine .inr ⟨g, 0, 24, by simp, by simp, by unfold maxLen; omega, fun i x hx => ?_⟩
  have hi : i < 24 := by have := (List.getElem?_eq_some_iff.1 hx).1; simpa using this
  rw [List.getElem?_map, List.getElem?_range hi] at hx
  simp only [Option.map_some, Option.some.injEq] at hx
  rw [Nat.zero_add, h.at hi, hx]
theorem fidx_col (xs ys : List Int) : fidx (fun z => z != 0) ((List.range 24).map fun c : Nat => ((xs.count (c : Int) : Nat) : Int) - ((ys.count (c : Int) : Nat) : Int)) = colD xs ys := by
  have hget : ∀ (j : Nat) y, ((List.range 24).map fun c : Nat => ((xs.count (c : Int) : Nat) : Int) - ((ys.count (c : Int) : Nat) : Int))[j]? = some y → j < 24 ∧ y = ((xs.count (j : Int) : Nat) : Int) - ((ys.count (j : Int) : Nat) : Int) := fun j y h => by
    have hj : j < 24 := by have := (List.getElem?_eq_some_iff.1 h).1; simpa using this
    rw [List.getElem?_map, List.getElem?_range hj] at h
    simp only [Option.map_some, Option.some.injEq] at h
    exact ⟨hj, h.symm⟩
  unfold colD
  rcases fstNo_cases (fun c : Nat => decide (xs.count (c : Int) = ys.count (c : Int))) 24 with ⟨h1, h2⟩ | ⟨k, hk, h1, h2, h3⟩
  · rw [h1]
    refine fidx_miss (fun j y hy => ?_)
    obtain ⟨hj, rfl⟩ := hget j y hy
    have := of_decide_eq_true (h2 j hj)
    rw [this]; simp
  · rw [h1]
    refine fidx_hit (k := k) (x := ((xs.count (k : Int) : Nat) : Int) - ((ys.count (k : Int) : Nat) : Int)) (by rw [List.getElem?_map, List.getElem?_range hk]; rfl) ?_ (fun j y hj hy => ?_)
    · have := of_decide_eq_false h2
      simp only [bne_iff_ne]
      omega
    · obtain ⟨hj', rfl⟩ := hget j y hy
      have := of_decide_eq_true (h3 j hj)
      rw [this]; simp
set_option maxRecDepth 100000 in
theorem fcc_any (z : Int) (W : World) : Calls Tryz.prog 143 #[.int .i64 z] W fun e w' => e = .returned (.bool (z != 0)) ∧ w' = W := by
  go_enter Tryz.func143, Tryz.ntmps143
  go_wp2
  go_ret
  exact ⟨rfl, rfl⟩
set_option maxRecDepth 100000 in
set_option maxHeartbeats 4000000 in
theorem firstColor_any (xs ys : List Int) (s1 s2 : Value) (w : World) (h : IntSl w s1 xs) (h' : IntSl w s2 ys) (hl : xs.length ≤ 1000) (hl' : ys.length ≤ 1000) (hx : ∀ z ∈ xs, 0 ≤ z ∧ z < 24) (hy : ∀ z ∈ ys, 0 ≤ z ∧ z < 24) :
    Calls Tryz.prog 105 #[s1, s2] w fun e w' => e = .returned (.int .i64 (colD xs ys)) ∧ Below w.heap.size w w' := by
  rw [← fidx_col]
  have HX := Lib.hid h
  have HY := Lib.hid h'
  have HXR := Lib.hid hx
  have HYR := Lib.hid hy
  have egc : ∀ args w, (callFunc 143 args).run Tryz.prog w = .ok (.enter 143 args) w := enters_of Tryz.func143 (by kernel_rfl) rfl
  have HIX := Lib.hid (fun (zs : List Int) sv w (h : IntSl w sv zs) => indexFuncI_any 143 #[] egc (fun z => z != 0) sv zs w h (fun W z _ _ => by
    show Calls Tryz.prog 143 #[.int .i64 z] W _
    refine (fcc_any z W).mono ?_
    rintro e w' ⟨rfl, rfl⟩
    exact ⟨rfl, Below.refl _ _⟩))
  obtain ⟨a1, c1, rfl⟩ := h.len
  obtain ⟨a2, c2, rfl⟩ := h'.len
  obtain ⟨p, hpl⟩ : ∃ p, xs.length = p := ⟨_, rfl⟩
  obtain ⟨q, hql⟩ : ∃ q, ys.length = q := ⟨_, rfl⟩
  obtain ⟨RR, hRR⟩ : ∃ R, fidx (fun z => z != 0) ((List.range 24).map fun c : Nat => ((xs.count (c : Int) : Nat) : Int) - ((ys.count (c : Int) : Nat) : Int)) = R := ⟨_, rfl⟩
  rw [hRR]
  have HRR := Lib.hid hRR
  rw [hpl] at HX hl ⊢
  rw [hql] at HY hl' ⊢
  have HLP := Lib.hid hpl
  have HLQ := Lib.hid hql
  have HXA := Lib.hid (show xs.take p = xs from by rw [← hpl]; exact List.take_length)
  have HYA := Lib.hid (show ys.take q = ys from by rw [← hql]; exact List.take_length)
  clear h h' hpl hql hx hy hRR egc
  go_enter Tryz.func105, Tryz.ntmps105
  go_upto_region 1 with fail
  go_cut [5] from 10 to 10 (fun pv wx => pv = .pointer (some ⟨w.heap.size, 0, none⟩) ∧ Hid (CntB wx w.heap.size (fun _ => 0)) ∧ Hid (Below w.heap.size w wx))
  case first =>
    have HN := Lib.hid (cnt_z24 w)
    have hg : (w.alloc (.cells #[.int .i64 0, .int .i64 0, .int .i64 0, .int .i64 0, .int .i64 0, .int .i64 0, .int .i64 0, .int .i64 0, .int .i64 0, .int .i64 0, .int .i64 0, .int .i64 0, .int .i64 0, .int .i64 0, .int .i64 0, .int .i64 0, .int .i64 0, .int .i64 0, .int .i64 0, .int .i64 0, .int .i64 0, .int .i64 0, .int .i64 0, .int .i64 0] 163)).heap[w.heap.size]? = some (.cells #[.int .i64 0, .int .i64 0, .int .i64 0, .int .i64 0, .int .i64 0, .int .i64 0, .int .i64 0, .int .i64 0, .int .i64 0, .int .i64 0, .int .i64 0, .int .i64 0, .int .i64 0, .int .i64 0, .int .i64 0, .int .i64 0, .int .i64 0, .int .i64 0, .int .i64 0, .int .i64 0, .int .i64 0, .int .i64 0, .int .i64 0, .int .i64 0] 163 (0, 0)) := Blk.new (cs := #[.int .i64 0, .int .i64 0, .int .i64 0, .int .i64 0, .int .i64 0, .int .i64 0, .int .i64 0, .int .i64 0, .int .i64 0, .int .i64 0, .int .i64 0, .int .i64 0, .int .i64 0, .int .i64 0, .int .i64 0, .int .i64 0, .int .i64 0, .int .i64 0, .int .i64 0, .int .i64 0, .int .i64 0, .int .i64 0, .int .i64 0, .int .i64 0]) (T := 163) _ rfl
    have HG := Lib.hid hg
    clear hg
    refine wp_region_lit (wpList_plain rfl fun K hK => ?_)
    go_simp
    refine hK _ _ ?_
    refine wpList_plain rfl fun K hK => ?_
    go_simp
    refine hK _ _ ?_
    refine wpList_plain rfl fun K hK => ?_
    refine wp_store_row 163 _ _ rfl w.heap.size #[.int .i64 0, .int .i64 0, .int .i64 0, .int .i64 0, .int .i64 0, .int .i64 0, .int .i64 0, .int .i64 0, .int .i64 0, .int .i64 0, .int .i64 0, .int .i64 0, .int .i64 0, .int .i64 0, .int .i64 0, .int .i64 0, .int .i64 0, .int .i64 0, .int .i64 0, .int .i64 0, .int .i64 0, .int .i64 0, .int .i64 0, .int .i64 0] (by rfl) (by rfl) 163 #[.int .i64 0, .int .i64 0, .int .i64 0, .int .i64 0, .int .i64 0, .int .i64 0, .int .i64 0, .int .i64 0, .int .i64 0, .int .i64 0, .int .i64 0, .int .i64 0, .int .i64 0, .int .i64 0, .int .i64 0, .int .i64 0, .int .i64 0, .int .i64 0, .int .i64 0, .int .i64 0, .int .i64 0, .int .i64 0, .int .i64 0, .int .i64 0] HG.out (by kernel_rfl) rfl (by kernel_rfl) ?_
    rw [setRow_self _ _ _ _ _ HG.out]
    refine hK _ _ ?_
    refine wpList_nil ?_
    clear hK
    go_wp2
    go_meet
    exact ⟨rfl, HN, Lib.hid ((Below.refl _ w).alloc (Nat.le_refl _) _)⟩
  case rest =>
  obtain ⟨rfl, HC0, HB0⟩ := hcut
  go_wp2
  go_loopw [7, 13] (fun cv iv wr => ∃ i : Nat, i ≤ p ∧ iv = .int .i64 (i : Int) ∧ Hid (CntB wr w.heap.size (fun c => (((xs.take i).count (c : Int) : Nat) : Int))) ∧ Hid (Below w.heap.size w wr)) (fun _ iv _ => p - (intOf iv).toNat)
  case atStart => exact ⟨0, Nat.zero_le _, rfl, Lib.hid (HC0.out.cong (fun i _ => by simp)), HB0⟩
  case round =>
    clear HC0 HB0
    obtain ⟨i, hi, rfl, HF, HB⟩ := hrel
    by_cases hit : i < p
    · obtain ⟨z, hz⟩ : ∃ z, xs[i]? = some z := ⟨_, List.getElem?_eq_getElem (by rw [HLP.out]; exact hit)⟩
      obtain ⟨z0, z1⟩ := HXR.out z (List.mem_of_getElem? hz)
      obtain ⟨c, rfl⟩ : ∃ c : Nat, z = (c : Int) := ⟨z.toNat, by omega⟩
      have hc : c < 24 := by omega
      have hst := Lib.hid (fun k : Nat => count_take xs i (c : Int) hz (k : Int))
      obtain ⟨pb, po, pc, hep, _, c5⟩ := (HX.out.by HB.out).nm (by rw [HLP.out]; omega)
      obtain ⟨rfl, rfl⟩ : a1 = some ⟨pb, po, none⟩ ∧ c1 = pc := by
        simp only [Value.slice.injEq] at hep
        exact ⟨hep.1, hep.2.2⟩
      have cp := c5 i (by rw [HLP.out]; exact hit)
      have e5 : nmOf xs (i : Int) = (c : Int) := by unfold nmOf; rw [Int.toNat_natCast, List.getD_eq_getElem?_getD, hz]; rfl
      rw [e5] at cp
      have i1 : (i : Int) < (p : Int) := by omega
      have i2 : decide (i < p) = true := decide_eq_true hit
      have c1 : (c : Int) < 24 := z1
      have c0 : decide (c < 24) = true := decide_eq_true hc
      obtain ⟨t, ht⟩ : ∃ t : Int, ((((xs.take i).count (c : Int) : Nat) : Int)) = t := ⟨_, rfl⟩
      have htb : -1000 ≤ t ∧ t ≤ 1000 := by
        have h1 := List.count_le_length (a := (c : Int)) (l := xs.take i)
        have h2 := List.length_take_le i xs
        have h3 := HLP.out
        have h4 := List.count_le_length (a := (c : Int)) (l := xs)
        have h5 := HLP.out
        omega
      have qC := HF.out.at hc
      simp only [ht] at qC
      have lC := HF.out.lt
      have fC := HF.out.free
      have HST := Lib.hid (show CntB (wr.setCell ⟨w.heap.size, c, none⟩ (.int .i64 (t + 1))) w.heap.size (fun k => (((xs.take (i + 1)).count (k : Int) : Nat) : Int)) from
        HF.out.set hc (by have := hst.out c; rw [if_pos rfl] at this; rw [← ht, this]; omega) (fun k hk => by have := hst.out k; rw [if_neg (by omega)] at this; rw [this]; simp))
      have HBN := Lib.hid (show Below w.heap.size w (wr.setCell ⟨w.heap.size, c, none⟩ (.int .i64 (t + 1))) from HB.out.setCell (Nat.le_refl _) _)
      clear c5 hep e5 hz ht hst HF HB z0 z1
      go_wp2
      exact ⟨⟨i + 1, by omega, by go_num, HST, HBN⟩, by simp [intOf]; omega⟩
    · obtain rfl : p = i := by omega
      have i1 : ¬ (p : Int) < (p : Int) := by omega
      rw [HXA.out] at HF
      clear hit
      go_wp2
      go_loopw [9, 25] (fun cv iv wr => ∃ i : Nat, i ≤ q ∧ iv = .int .i64 (i : Int) ∧ Hid (CntB wr w.heap.size (fun c => ((xs.count (c : Int) : Nat) : Int) - (((ys.take i).count (c : Int) : Nat) : Int))) ∧ Hid (Below w.heap.size w wr)) (fun _ iv _ => q - (intOf iv).toNat)
      case atStart => exact ⟨0, Nat.zero_le _, rfl, Lib.hid (HF.out.cong (fun i _ => by simp)), HB⟩
      case round =>
        clear HF HB
        obtain ⟨i, hi, rfl, HF, HB⟩ := hrel
        by_cases hit : i < q
        · obtain ⟨z, hz⟩ : ∃ z, ys[i]? = some z := ⟨_, List.getElem?_eq_getElem (by rw [HLQ.out]; exact hit)⟩
          obtain ⟨z0, z1⟩ := HYR.out z (List.mem_of_getElem? hz)
          obtain ⟨c, rfl⟩ : ∃ c : Nat, z = (c : Int) := ⟨z.toNat, by omega⟩
          have hc : c < 24 := by omega
          have hst := Lib.hid (fun k : Nat => count_take ys i (c : Int) hz (k : Int))
          obtain ⟨pb, po, pc, hep, _, c5⟩ := (HY.out.by HB.out).nm (by rw [HLQ.out]; omega)
          obtain ⟨rfl, rfl⟩ : a2 = some ⟨pb, po, none⟩ ∧ c2 = pc := by
            simp only [Value.slice.injEq] at hep
            exact ⟨hep.1, hep.2.2⟩
          have cp := c5 i (by rw [HLQ.out]; exact hit)
          have e5 : nmOf ys (i : Int) = (c : Int) := by unfold nmOf; rw [Int.toNat_natCast, List.getD_eq_getElem?_getD, hz]; rfl
          rw [e5] at cp
          have i1 : (i : Int) < (q : Int) := by omega
          have i2 : decide (i < q) = true := decide_eq_true hit
          have c1 : (c : Int) < 24 := z1
          have c0 : decide (c < 24) = true := decide_eq_true hc
          obtain ⟨t, ht⟩ : ∃ t : Int, (((xs.count (c : Int) : Nat) : Int) - (((ys.take i).count (c : Int) : Nat) : Int)) = t := ⟨_, rfl⟩
          have htb : -1000 ≤ t ∧ t ≤ 1000 := by
            have h1 := List.count_le_length (a := (c : Int)) (l := ys.take i)
            have h2 := List.length_take_le i ys
            have h3 := HLQ.out
            have h4 := List.count_le_length (a := (c : Int)) (l := xs)
            have h5 := HLP.out
            omega
          have qC := HF.out.at hc
          simp only [ht] at qC
          have lC := HF.out.lt
          have fC := HF.out.free
          have HST := Lib.hid (show CntB (wr.setCell ⟨w.heap.size, c, none⟩ (.int .i64 (t - 1))) w.heap.size (fun k => ((xs.count (k : Int) : Nat) : Int) - (((ys.take (i + 1)).count (k : Int) : Nat) : Int)) from
            HF.out.set hc (by have := hst.out c; rw [if_pos rfl] at this; rw [← ht, this]; omega) (fun k hk => by have := hst.out k; rw [if_neg (by omega)] at this; rw [this]; simp))
          have HBN := Lib.hid (show Below w.heap.size w (wr.setCell ⟨w.heap.size, c, none⟩ (.int .i64 (t - 1))) from HB.out.setCell (Nat.le_refl _) _)
          clear c5 hep e5 hz ht hst HF HB z0 z1
          go_wp2
          exact ⟨⟨i + 1, by omega, by go_num, HST, HBN⟩, by simp [intOf]; omega⟩
        · obtain rfl : q = i := by omega
          have i2 : ¬ (q : Int) < (q : Int) := by omega
          rw [HYA.out] at HF
          have HIW := Lib.hid (HIX.out _ (.slice (some ⟨w.heap.size, 0, none⟩) 24 24) _ (cnt_sl HF.out))
          rw [HRR.out] at HIW
          have lC := HF.out.lt
          clear hit
          go_wp2_with fail
          refine HIW.out.mono ?_
          rintro e w9 ⟨rfl, hb9⟩
          have hb9w := below_on hb9 HB.out
          go_wp2
          go_ret
          exact ⟨rfl, hb9w⟩
theorem mem_portTo {ps : List Pt} {net : Int} {k j : Nat} : (j : Int) ∈ portTo ps net k ↔ j < k ∧ ∃ p, ps[j]? = some p ∧ p.net = net := by
  unfold portTo
  rw [List.mem_map]
  constructor
  · rintro ⟨i, hi, e⟩
    rw [List.mem_filter, List.mem_range] at hi
    have : i = j := by omega
    subst this
    refine ⟨hi.1, ?_⟩
    cases hp : ps[i]? with
    | none => rw [hp] at hi; simp at hi
    | some p => rw [hp] at hi; exact ⟨p, rfl, by simpa using hi.2⟩
  · rintro ⟨h1, p, hp, e⟩
    exact ⟨j, by rw [List.mem_filter, List.mem_range, hp]; exact ⟨h1, by simpa using e⟩, rfl⟩
theorem nm_rig_snoc {n : Nat} {nets : List Int} {k : Int} (hg : goodN n (nets ++ [k])) {b : Int} (h0 : 0 ≤ b) (h1 : b < n) :
    nmOf (rigTo n (nets ++ [k]) (nets ++ [k]).length) b = if b = k then (nets.length : Int) else nmOf (rigTo n nets nets.length) b := by
  have hg' : goodN n nets := ⟨(List.nodup_append.1 hg.1).1, fun z hz => hg.2 z (List.mem_append.2 (.inl hz))⟩
  have hl : (nets ++ [k]).length = nets.length + 1 := by simp
  have hin : ∀ i : Nat, i < nets.length → nmOf (nets ++ [k]) (i : Int) = nmOf nets (i : Int) := fun i hi => by
    unfold nmOf; rw [Int.toNat_natCast, List.getD_eq_getElem?_getD, List.getD_eq_getElem?_getD, List.getElem?_append_left hi]
  have hk : nmOf (nets ++ [k]) (nets.length : Int) = k := by unfold nmOf; simp [List.getD_eq_getElem?_getD]
  by_cases e : b = k
  · rw [if_pos e, e]
    have := nm_rig hg (i := nets.length) (by omega)
    rw [hk] at this; exact this
  · rw [if_neg e]
    by_cases hb : b ∈ nets
    · obtain ⟨i, hi, rfl⟩ := mem_nm hb
      have a1 := nm_rig hg (i := i) (by omega)
      rw [hin i hi] at a1
      rw [a1, nm_rig hg' hi]
    · rw [nm_rig_no hg' h0 h1 hb]
      exact nm_rig_no hg h0 h1 (fun h => by
        rcases List.mem_append.1 h with h | h
        · exact hb h
        · exact e (by simpa using h))
theorem port_step {ps qs : List Pt} {n : Nat} {nets : List Int} {k : Int} (hp : ∀ p ∈ ps, 0 ≤ p.net ∧ p.net < (n : Int)) (hq : ∀ p ∈ qs, 0 ≤ p.net ∧ p.net < (n : Int)) (hl : qs.length = ps.length) (hg : goodN n (nets ++ [k]))
    (h : allB (prtLR ps qs (lefTo n nets.length) (rigTo n nets nets.length)) ps.length = true) :
    allB (prtLR ps qs (lefTo n (nets ++ [k]).length) (rigTo n (nets ++ [k]) (nets ++ [k]).length)) ps.length = decide (portTo ps (nets.length : Int) ps.length = portTo qs k qs.length) := by
  have hll : (nets ++ [k]).length = nets.length + 1 := by simp
  have at_ : ∀ j, j < ps.length → ∃ a b, ps[j]? = some a ∧ qs[j]? = some b ∧ (0 ≤ a.net ∧ a.net < (n : Int)) ∧ (0 ≤ b.net ∧ b.net < (n : Int)) := fun j hj => by
    have ha : ps[j]? = some ps[j] := List.getElem?_eq_getElem hj
    have hb : qs[j]? = some (qs[j]'(by omega)) := List.getElem?_eq_getElem (by omega)
    exact ⟨_, _, ha, hb, hp _ (List.mem_of_getElem? ha), hq _ (List.mem_of_getElem? hb)⟩
  have old : ∀ j a b, j < ps.length → ps[j]? = some a → qs[j]? = some b → (if a.net < (nets.length : Int) then a.net else -1) = nmOf (rigTo n nets nets.length) b.net := fun j a b hj ha hb => by
    have := h
    simp only [allB, List.all_eq_true, List.mem_range] at this
    have := this j hj
    unfold prtLR at this
    rw [ha, hb] at this
    have h2 := of_decide_eq_true this
    have r := hp _ (List.mem_of_getElem? ha)
    rw [nm_lefTo r.1 r.2] at h2
    exact h2
  have new : ∀ j a b, j < ps.length → ps[j]? = some a → qs[j]? = some b → prtLR ps qs (lefTo n (nets ++ [k]).length) (rigTo n (nets ++ [k]) (nets ++ [k]).length) j = decide ((if a.net < (nets.length : Int) + 1 then a.net else -1) = if b.net = k then (nets.length : Int) else nmOf (rigTo n nets nets.length) b.net) := fun j a b hj ha hb => by
    have r := hp _ (List.mem_of_getElem? ha)
    have s := hq _ (List.mem_of_getElem? hb)
    unfold prtLR
    rw [ha, hb]
    dsimp only
    rw [nm_lefTo r.1 r.2, nm_rig_snoc hg s.1 s.2, hll]
    simp
  have lt : ∀ j a b, j < ps.length → ps[j]? = some a → qs[j]? = some b → nmOf (rigTo n nets nets.length) b.net < (nets.length : Int) := fun j a b hj ha hb => by
    rw [← old j a b hj ha hb]; split <;> omega
  have iff : allB (prtLR ps qs (lefTo n (nets ++ [k]).length) (rigTo n (nets ++ [k]) (nets ++ [k]).length)) ps.length = true ↔ ∀ j a b, j < ps.length → ps[j]? = some a → qs[j]? = some b → (a.net = (nets.length : Int) ↔ b.net = k) := by
    constructor
    · intro hA j a b hj ha hb
      simp only [allB, List.all_eq_true, List.mem_range] at hA
      have h2 := hA j hj
      rw [new j a b hj ha hb] at h2
      have h2 := of_decide_eq_true h2
      have := lt j a b hj ha hb
      have := (hp _ (List.mem_of_getElem? ha)).1
      constructor
      · intro e
        by_cases q : b.net = k
        · exact q
        · rw [if_neg q, if_pos (by omega)] at h2; omega
      · intro e
        rw [if_pos e] at h2
        split at h2 <;> omega
    · intro hA
      refine allB_yes (fun j hj => ?_)
      obtain ⟨a, b, ha, hb, r, s⟩ := at_ j hj
      rw [new j a b hj ha hb]
      have h1 := hA j a b hj ha hb
      have h2 := old j a b hj ha hb
      refine decide_eq_true ?_
      by_cases q : b.net = k
      · rw [if_pos q, if_pos (by have := h1.2 q; omega)]; exact h1.2 q
      · have : ¬ a.net = (nets.length : Int) := fun e => q (h1.1 e)
        rw [if_neg q, ← h2]
        by_cases q2 : a.net < (nets.length : Int)
        · rw [if_pos q2, if_pos (by omega)]
        · rw [if_neg q2, if_neg (by omega)]
  have iff2 : portTo ps (nets.length : Int) ps.length = portTo qs k qs.length ↔ ∀ j a b, j < ps.length → ps[j]? = some a → qs[j]? = some b → (a.net = (nets.length : Int) ↔ b.net = k) := by
    constructor
    · intro e j a b hj ha hb
      have m1 := mem_portTo (ps := ps) (net := (nets.length : Int)) (k := ps.length) (j := j)
      have m2 := mem_portTo (ps := qs) (net := k) (k := qs.length) (j := j)
      rw [e] at m1
      have := m1.symm.trans m2
      rw [ha, hb] at this
      constructor
      · intro q
        obtain ⟨_, p, hp', h'⟩ := this.1 ⟨hj, a, rfl, q⟩
        cases hp'; exact h'
      · intro q
        obtain ⟨_, p, hp', h'⟩ := this.2 ⟨by omega, b, rfl, q⟩
        cases hp'; exact h'
    · intro hA
      unfold portTo
      rw [hl]
      congr 1
      refine List.filter_congr (fun j hj => ?_)
      obtain ⟨a, b, ha, hb, _, _⟩ := at_ j (List.mem_range.1 hj)
      rw [ha, hb]
      exact decide_eq_decide.2 (hA j a b (List.mem_range.1 hj) ha hb)
  rw [Bool.eq_iff_iff, iff, decide_eq_true_iff, iff2]
theorem fit_step {x y : Nl} {nets : List Int} {k : Int} (hx : nlB x = true) (hy : nlB y = true) (hn : y.nets = x.nets) (hpl : y.ps.length = x.ps.length) (hg : goodN x.nets.toNat (nets ++ [k])) (h : fitB x y nets = true) :
    fitB x y (nets ++ [k]) = (decide (portTo x.ps (nets.length : Int) x.ps.length = portTo y.ps k y.ps.length) && fitI x y (nets ++ [k])) := by
  obtain ⟨⟨n0, n1⟩, _, _, hdx, _⟩ := nlB_facts hx
  obtain ⟨_, _, _, hdy, _⟩ := nlB_facts hy
  obtain ⟨n, hnn⟩ : ∃ n : Nat, x.nets = n := ⟨x.nets.toNat, by omega⟩
  have hnt : x.nets.toNat = n := by omega
  rw [hn, hnn] at hdy
  rw [hnn] at hdx
  rw [hnt] at hg
  unfold fitB at h ⊢
  rw [hn, hnt] at h ⊢
  rw [Bool.and_eq_true] at h
  rw [fit_same hdx hdy hg, port_step (fun p hp => by have := pt_in hx hp; omega) (fun p hp => by have := pt_in hy hp; omega) hpl hg h.1]
def smlB (x : Nl) : Bool := decide (x.nets ≤ 10) && decide (x.ds.length ≤ 10)
noncomputable def cpS (x y : Nl) (z : List Int) : List Int := grd (x.ds.map fun d => nzD (renD z d)) (y.ds.map nzD) x.ds.length
noncomputable def cmpF (x y : Nl) : Option (List Int) := if mayB x y = true then (srchS x y true).head? else none
noncomputable def cmpR (x y : Nl) : List Int × List Int :=
  if (nlB x && nlB y) = true then (if (smlB x && smlB y) = true then (match cmpF x y with | some z => (z, cpS x y z) | none => ([], [])) else ([], [])) else ([], [])
noncomputable def cmpC (x y : Nl) : Int :=
  if (nlB x && nlB y) = true then (if (smlB x && smlB y) = true then (match cmpF x y with | some _ => 0 | none => 5) else 3) else 1
def preB (x y : Nl) : Bool := decide (x.nets = y.nets) && (decide (x.ds.length = y.ds.length) && decide (namD x.ps y.ps = -1))
theorem pre_facts {x y : Nl} (h : preB x y = true) : y.nets = x.nets ∧ y.ds.length = x.ds.length ∧ y.ps.length = x.ps.length ∧ ∀ (i : Nat) (a b : Pt), x.ps[i]? = some a → y.ps[i]? = some b → b.name = a.name := by
  simp only [preB, Bool.and_eq_true, decide_eq_true_eq] at h
  obtain ⟨h1, h2, h3⟩ := h
  obtain ⟨h4, h5⟩ := namD_no h3
  exact ⟨h1.symm, h2.symm, h4, h5⟩
theorem ref_lens {x : Nl} (hx : nlB x = true) : ((refNet x).1.1.length : Int) = x.nets ∧ (refNet x).1.2.length = x.ds.length := by
  have hr : refNet x = refN x 64 (iniS x) 0 := by unfold refNet; rw [if_pos hx]
  have := coB_lens (coB_refN 64 (iniS x) 0 (coB_ini hx))
  rw [hr]
  exact ⟨this.1, this.2.1⟩
theorem iso_may {x y : Nl} {p q : List Int} (H : NlIso x y p q) (hx : nlB x = true) (hy : nlB y = true) : mayB x y = true := by
  obtain ⟨c1, c2⟩ := colors_of H hx hy (ref_lens hx) (ref_lens hy)
  simp only [mayB, Bool.and_eq_true, decide_eq_true_eq]
  exact ⟨H.nets.symm, H.len.symm, names_of H, sizes_of H hx hy, c1, c2⟩
theorem cmpF_pre {x y : Nl} (hx : nlB x = true) (hy : nlB y = true) : cmpF x y = if preB x y = true then (srchS x y true).head? else none := by
  unfold cmpF
  by_cases hp : preB x y = true
  · rw [if_pos hp]
    obtain ⟨f1, f2, f3, f4⟩ := pre_facts hp
    by_cases hm : mayB x y = true
    · rw [if_pos hm]
    · rw [if_neg hm]
      cases hs : srchS x y true with
      | nil => rfl
      | cons z l =>
        obtain ⟨_, _, _, H⟩ := srchS_iso hx hy f1 f2 f3 f4 (one := true) (z := z) (by rw [hs]; simp)
        exact absurd (iso_may H hx hy) hm
  · rw [if_neg hp, if_neg (fun hm => hp (by
      simp only [mayB, Bool.and_eq_true, decide_eq_true_eq] at hm
      simp only [preB, Bool.and_eq_true, decide_eq_true_eq]
      exact ⟨hm.1, hm.2.1, hm.2.2.1⟩))]
noncomputable def expR (x y : Nl) : (Int × Int × Int) × Int :=
  if (nlB x && nlB y) = true then
    (if x.nets = y.nets then
      (if x.ds.length = y.ds.length then
        (if namD x.ps y.ps = -1 then
          (if sizD x.ds y.ds = -1 then
            (if colD (refNet x).1.1 (refNet y).1.1 = -1 then
              (if colD (refNet x).1.2 (refNet y).1.2 = -1 then
                (if (smlB x && smlB y) = true then (match cmpF x y with | some _ => ((0, 0, 0), 0) | none => ((7, 0, 0), 0)) else ((0, 0, 0), 3))
              else ((6, colD (refNet x).1.2 (refNet y).1.2, 0), 0))
            else ((5, colD (refNet x).1.1 (refNet y).1.1, 0), 0))
          else ((4, sizD x.ds y.ds, 0), 0))
        else ((3, namD x.ps y.ps, 0), 0))
      else ((2, (x.ds.length : Int), (y.ds.length : Int)), 0))
    else ((1, x.nets, y.nets), 0))
  else ((0, 0, 0), 1)
theorem refined_n (x : Nl) (n : Nat) (hx : nlB x = true) (hn : x.nets = n) (v : Value) (w : World) (h : NlV w v x) :
    Calls Tryz.prog 93 #[v] w fun e w' => ∃ (a1 : Option Addr) (c1 : Nat) (a2 : Option Addr) (L c2 : Nat) (q : Int), e = .returned (.tuple #[.agg #[.slice a1 n c1, .slice a2 L c2], .int .i64 q]) ∧ OwnR w' w.heap.size w'.heap.size (.slice a1 n c1) (refNet x).1.1 ∧ OwnR w' w.heap.size w'.heap.size (.slice a2 L c2) (refNet x).1.2 ∧ (refNet x).1.2.length = L ∧ Below w.heap.size w w' := by
  have hR : refNet x = refN x 64 (iniS x) 0 := by unfold refNet; rw [if_pos hx]
  have hl : (refNet x).1.1.length = n := by have := (ref_lens hx).1; omega
  refine (refined_any x v w h hx).mono ?_
  rw [← hR]
  rintro e w' ⟨v', rfl, ⟨s1, s2, l1, h1, l2, h2, rfl, hO1, hO2, hi1, hi2, _⟩, hb⟩
  obtain ⟨a1, c1, rfl⟩ := hO1.sl.len
  obtain ⟨a2, c2, rfl⟩ := hO2.sl.len
  rw [hl] at hO1 ⊢
  exact ⟨a1, c1, a2, _, c2, _, rfl, OwnR.wide' hO1 hi1.1 hi1.2, OwnR.wide' hO2 hi2.1 hi2.2, rfl, hb⟩
noncomputable def xplR (x y : Nl) : Int × Int × Int :=
  if x.nets = y.nets then (if x.ds.length = y.ds.length then (if namD x.ps y.ps = -1 then (if sizD x.ds y.ds = -1 then (if colD (refNet x).1.1 (refNet y).1.1 = -1 then (if colD (refNet x).1.2 (refNet y).1.2 = -1 then (0, 0, 0) else (6, colD (refNet x).1.2 (refNet y).1.2, 0)) else (5, colD (refNet x).1.1 (refNet y).1.1, 0)) else (4, sizD x.ds y.ds, 0)) else (3, namD x.ps y.ps, 0)) else (2, (x.ds.length : Int), (y.ds.length : Int))) else (1, x.nets, y.nets)
theorem xpl_1 {x y : Nl} (h : ¬ x.nets = y.nets) : xplR x y = (1, x.nets, y.nets) := by unfold xplR; rw [if_neg h]
theorem xpl_2 {x y : Nl} (h : x.nets = y.nets) (h2 : ¬ x.ds.length = y.ds.length) : xplR x y = (2, (x.ds.length : Int), (y.ds.length : Int)) := by unfold xplR; rw [if_pos h, if_neg h2]
theorem xpl_3 {x y : Nl} (h : x.nets = y.nets) (h2 : x.ds.length = y.ds.length) (h3 : ¬ namD x.ps y.ps = -1) : xplR x y = (3, namD x.ps y.ps, 0) := by unfold xplR; rw [if_pos h, if_pos h2, if_neg h3]
theorem xpl_4 {x y : Nl} (h : x.nets = y.nets) (h2 : x.ds.length = y.ds.length) (h3 : namD x.ps y.ps = -1) (h4 : ¬ sizD x.ds y.ds = -1) : xplR x y = (4, sizD x.ds y.ds, 0) := by unfold xplR; rw [if_pos h, if_pos h2, if_pos h3, if_neg h4]
theorem xpl_5 {x y : Nl} (h : x.nets = y.nets) (h2 : x.ds.length = y.ds.length) (h3 : namD x.ps y.ps = -1) (h4 : sizD x.ds y.ds = -1) (h5 : ¬ colD (refNet x).1.1 (refNet y).1.1 = -1) : xplR x y = (5, colD (refNet x).1.1 (refNet y).1.1, 0) := by unfold xplR; rw [if_pos h, if_pos h2, if_pos h3, if_pos h4, if_neg h5]
theorem xpl_6 {x y : Nl} (h : x.nets = y.nets) (h2 : x.ds.length = y.ds.length) (h3 : namD x.ps y.ps = -1) (h4 : sizD x.ds y.ds = -1) (h5 : colD (refNet x).1.1 (refNet y).1.1 = -1) (h6 : ¬ colD (refNet x).1.2 (refNet y).1.2 = -1) : xplR x y = (6, colD (refNet x).1.2 (refNet y).1.2, 0) := by unfold xplR; rw [if_pos h, if_pos h2, if_pos h3, if_pos h4, if_pos h5, if_neg h6]
theorem xpl_7 {x y : Nl} (h : x.nets = y.nets) (h2 : x.ds.length = y.ds.length) (h3 : namD x.ps y.ps = -1) (h4 : sizD x.ds y.ds = -1) (h5 : colD (refNet x).1.1 (refNet y).1.1 = -1) (h6 : colD (refNet x).1.2 (refNet y).1.2 = -1) : xplR x y = (0, 0, 0) := by unfold xplR; rw [if_pos h, if_pos h2, if_pos h3, if_pos h4, if_pos h5, if_pos h6]
theorem ref_rng {x : Nl} (hx : nlB x = true) : (∀ z ∈ (refNet x).1.1, 0 ≤ z ∧ z < 24) ∧ ∀ z ∈ (refNet x).1.2, 0 ≤ z ∧ z < 24 := by
  have hr : refNet x = refN x 64 (iniS x) 0 := by unfold refNet; rw [if_pos hx]
  have h := coB_refN 64 (iniS x) 0 (coB_ini hx)
  rw [coB_of _ hx, Bool.and_eq_true] at h
  have key : ∀ (zs : List Int) (n : Int), colsB zs n = true → ∀ z ∈ zs, 0 ≤ z ∧ z < 24 := fun zs n h z hz => by
    simp only [colsB, Bool.and_eq_true, decide_eq_true_eq, List.all_eq_true] at h
    have := inB_iff.1 (h.1 z hz)
    omega
  rw [hr]
  exact ⟨key _ _ h.1, key _ _ h.2⟩
theorem colD_ge (a b : List Int) : -1 ≤ colD a b := by
  unfold colD
  rcases fstNo_cases (fun c : Nat => decide (a.count (c : Int) = b.count (c : Int))) 24 with ⟨h, _⟩ | ⟨k, _, h, _⟩ <;> omega
set_option maxRecDepth 100000 in
set_option maxHeartbeats 16000000 in
theorem explained_any (x y : Nl) (v u : Value) (w : World) (h : NlV w v x) (h' : NlV w u y) (hx : nlB x = true) (hy : nlB y = true) :
    Calls Tryz.prog 57 #[v, u] w fun e w' => e = .returned (.agg #[.int .i64 (xplR x y).1, .int .i64 (xplR x y).2.1, .int .i64 (xplR x y).2.2]) ∧ Below w.heap.size w w' := by
  have HV := Lib.hid h
  have HU := Lib.hid h'
  have HXB := Lib.hid hx
  have HYB := Lib.hid hy
  obtain ⟨s1, s2, rfl, hd, hp⟩ := h
  obtain ⟨t1, t2, rfl, hd', hp'⟩ := h'
  have HP := Lib.hid hp
  have HQ := Lib.hid hp'
  obtain ⟨a1, c1, rfl⟩ := hd.sized
  obtain ⟨a2, c2, rfl⟩ := hp.sized
  obtain ⟨b1, d1, rfl⟩ := hd'.sized
  obtain ⟨b2, d2, rfl⟩ := hp'.sized
  obtain ⟨K1, L1, R1, hX⟩ : ∃ K L R, xplR x y = (K, L, R) := ⟨_, _, _, rfl⟩
  rw [hX]
  dsimp only
  have HX := Lib.hid hX
  have HAY := Lib.hid (fun h => @fstNo_none (namAt x.ps y.ps) (max x.ps.length y.ps.length) h)
  have HAN := Lib.hid (fun k a b c => @fstNo_at (namAt x.ps y.ps) (max x.ps.length y.ps.length) k a b c)
  have HNA := Lib.hid (show ∀ k p q, x.ps[k]? = some p → y.ps[k]? = some q → namAt x.ps y.ps k = (p.name.toList == q.name.toList) from fun k p q h1 h2 => by unfold namAt; rw [h1, h2])
  have HN1 := Lib.hid (show ∀ k, x.ps.length ≤ k → namAt x.ps y.ps k = false from fun k h => by unfold namAt; rw [show x.ps[k]? = none by simp; omega])
  have HN2 := Lib.hid (show ∀ k, y.ps.length ≤ k → namAt x.ps y.ps k = false from fun k h => by
    unfold namAt
    rw [show y.ps[k]? = none by simp; omega]
    cases x.ps[k]? <;> rfl)
  have HND := Lib.hid (show namD x.ps y.ps = fstNo (namAt x.ps y.ps) (max x.ps.length y.ps.length) from rfl)
  have HSD := Lib.hid (sizD_rows x.ds y.ds)
  have HSY := Lib.hid (fun h => @fstNo_none (fun i => decide ((rowsS x.ds)[i]? = (rowsS y.ds)[i]?)) x.ds.length h)
  have HSN := Lib.hid (fun k a b c => @fstNo_at (fun i => decide ((rowsS x.ds)[i]? = (rowsS y.ds)[i]?)) x.ds.length k a b c)
  have hpx8 : x.ps.length ≤ 8 := (nlB_facts hx).2.2.1
  have hpy8 : y.ps.length ≤ 8 := (nlB_facts hy).2.2.1
  have hlx24 : x.ds.length ≤ 24 := (nlB_facts hx).2.1
  have hly24 : y.ds.length ≤ 24 := (nlB_facts hy).2.1
  have hn0 : 0 ≤ x.nets ∧ x.nets ≤ 24 := (nlB_facts hx).1
  have HZX := Lib.hid (fun v w h => sizesOf_any x v w h hlx24)
  have HZY := Lib.hid (fun v w h => sizesOf_any y v w h hly24)
  have HRLX := Lib.hid (length_rowsS x.ds)
  have HRLY := Lib.hid (length_rowsS y.ds)
  have HFC := Lib.hid (fun xs ys s1 s2 w h h' a b c d => firstColor_any xs ys s1 s2 w h h' a b c d)
  generalize namAt x.ps y.ps = F at *
  obtain ⟨nx, hnx⟩ : ∃ N, x.nets = N := ⟨_, rfl⟩
  obtain ⟨ny, hny⟩ : ∃ N, y.nets = N := ⟨_, rfl⟩
  obtain ⟨n, hn⟩ : ∃ N, x.ds.length = N := ⟨_, rfl⟩
  obtain ⟨n2, hn2⟩ : ∃ N, y.ds.length = N := ⟨_, rfl⟩
  obtain ⟨p, hpl⟩ : ∃ N, x.ps.length = N := ⟨_, rfl⟩
  obtain ⟨q, hql⟩ : ∃ N, y.ps.length = N := ⟨_, rfl⟩
  rw [hnx, hn, hpl] at HV ⊢
  rw [hny, hn2, hql] at HU ⊢
  rw [hpl] at HP HN1 hpx8
  rw [hql] at HQ HN2 hpy8
  rw [hpl, hql] at HAY HAN HND
  rw [hn] at HSY HSN HSD HZX HRLX hlx24
  rw [hn2] at HZY HRLY hly24
  rw [hnx] at hn0
  have HLP := Lib.hid hpl
  have HLQ := Lib.hid hql
  have HLN := Lib.hid hn
  have HLM := Lib.hid hn2
  have HNX := Lib.hid hnx
  have HNY := Lib.hid hny
  have kA0 : Blk (((w.alloc (.cells #[.int .i64 nx, .slice a1 n c1, .slice a2 p c2] 35)).alloc (.cells #[.int .i64 ny, .slice b1 n2 d1, .slice b2 q d2] 35)).alloc (.cells #[.int .i64 0, .int .i64 0, .int .i64 0] 43)) w.heap.size #[.int .i64 nx, .slice a1 n c1, .slice a2 p c2] 35 := ((Blk.new _ rfl).past _).past _
  have kB0 : Blk (((w.alloc (.cells #[.int .i64 nx, .slice a1 n c1, .slice a2 p c2] 35)).alloc (.cells #[.int .i64 ny, .slice b1 n2 d1, .slice b2 q d2] 35)).alloc (.cells #[.int .i64 0, .int .i64 0, .int .i64 0] 43)) (w.heap.size + 1) #[.int .i64 ny, .slice b1 n2 d1, .slice b2 q d2] 35 := (Blk.new _ (by simp)).past _
  have kR0 : Blk (((w.alloc (.cells #[.int .i64 nx, .slice a1 n c1, .slice a2 p c2] 35)).alloc (.cells #[.int .i64 ny, .slice b1 n2 d1, .slice b2 q d2] 35)).alloc (.cells #[.int .i64 0, .int .i64 0, .int .i64 0] 43)) (w.heap.size + 2) #[.int .i64 0, .int .i64 0, .int .i64 0] 43 := Blk.new _ (by simp)
  have hb0 : Below w.heap.size w (((w.alloc (.cells #[.int .i64 nx, .slice a1 n c1, .slice a2 p c2] 35)).alloc (.cells #[.int .i64 ny, .slice b1 n2 d1, .slice b2 q d2] 35)).alloc (.cells #[.int .i64 0, .int .i64 0, .int .i64 0] 43)) := (((Below.refl _ w).alloc (Nat.le_refl _) _).alloc (by simp) _).alloc (by simp; omega) _
  clear hd hp hd' hp' hx hy hX hnx hny hn hn2 hpl hql
  by_cases hnn : nx = ny
  · subst hnn
    have e1 : (nx != nx) = false := by simp
    have e2 : (nx == nx) = true := by simp
    by_cases hll : n = n2
    · subst hll
      have e3 : ((n : Int) != (n : Int)) = false := by simp
      have e4 : ((n : Int) == (n : Int)) = true := by simp
      go_enter Tryz.func57, Tryz.ntmps57
      go_upto_region 5 with fail
      have qA := kA0.cell
      have qB := kB0.cell
      have lA := kA0.lt
      have lB := kB0.lt
      generalize (((w.alloc (.cells #[.int .i64 nx, .slice a1 n c1, .slice a2 p c2] 35)).alloc (.cells #[.int .i64 nx, .slice b1 n d1, .slice b2 q d2] 35)).alloc (.cells #[.int .i64 0, .int .i64 0, .int .i64 0] 43)) = w0 at *
      obtain ⟨M, hM⟩ : ∃ M, max p q = M := ⟨_, rfl⟩
      rw [hM] at HAY HAN HND
      have hMp : p ≤ M := by omega
      have hMq : q ≤ M := by omega
      have hMb : M ≤ 8 := by omega
      go_cut [45, 46] from 15 to 78 (fun mv iv wx => mv = .int .i64 (M : Int) ∧ iv = .int .i64 0 ∧ w0 = wx)
      case first =>
        by_cases hpq : (p : Int) < (q : Int)
        · have hMe : M = q := by omega
          subst hMe
          go_wp2
          go_meet
          exact ⟨(by first | rfl | (simp; omega)), rfl, (by first | trivial | rfl)⟩
        · have hMe : M = p := by omega
          subst hMe
          go_wp2
          go_meet
          exact ⟨(by first | rfl | (simp; omega)), rfl, (by first | trivial | rfl)⟩
      case rest =>
      obtain ⟨rfl, rfl, rfl⟩ := hcut
      clear qA qB lA lB
      go_wp2
      go_loopw [46] (fun iv wr => ∃ k : Nat, k ≤ M ∧ iv = .int .i64 (k : Int) ∧ Hid (∀ j, j < k → F j = true) ∧ Blk wr w.heap.size #[.int .i64 nx, .slice a1 n c1, .slice a2 p c2] 35 ∧ Blk wr (w.heap.size + 1) #[.int .i64 nx, .slice b1 n d1, .slice b2 q d2] 35 ∧ Blk wr (w.heap.size + 2) #[.int .i64 0, .int .i64 0, .int .i64 0] 43 ∧ Below w.heap.size w wr) (fun iv _ => M - (intOf iv).toNat)
      case atStart => exact ⟨0, Nat.zero_le _, rfl, Lib.hid (by intro j h; omega), kA0, kB0, kR0, hb0⟩
      case round =>
        clear kA0 kB0 kR0 hb0
        obtain ⟨k, hk, rfl, HI, kA, kB, kR, hb⟩ := hrel
        by_cases hlt : k < M
        · have i1 : (k : Int) < (M : Int) := by omega
          have i2 : decide (k < M) = true := decide_eq_true hlt
          have qA := kA.cell
          have qB := kB.cell
          have lA := kA.lt
          have lB := kB.lt
          go_upto_region 8 with fail
          go_cut [75] from 48 to 78 (fun cc wx => cc = .bool (!(F k)) ∧ Below wr.heap.size wr wx)
          case first =>
            by_cases hlp : k < p
            · have g1 : decide ((p : Int) ≤ (k : Int)) = false := decide_eq_false (by omega)
              have g2 : decide (p ≤ k) = false := decide_eq_false (by omega)
              by_cases hlq : k < q
              · have g3 : decide ((q : Int) ≤ (k : Int)) = false := decide_eq_false (by omega)
                have g4 : decide (q ≤ k) = false := decide_eq_false (by omega)
                have g5 : decide (k < p) = true := decide_eq_true hlp
                have g6 : decide (k < q) = true := decide_eq_true hlq
                have j1 : (k : Int) < (p : Int) := by omega
                have j2 : (k : Int) < (q : Int) := by omega
                obtain ⟨pp, hp⟩ : ∃ p, x.ps[k]? = some p := ⟨_, List.getElem?_eq_getElem (by rw [HLP.out]; exact hlp)⟩
                obtain ⟨qq, hq⟩ : ∃ q, y.ps[k]? = some q := ⟨_, List.getElem?_eq_getElem (by rw [HLQ.out]; exact hlq)⟩
                have hat := HNA.out k pp qq hp hq
                rcases HP.out with ⟨_, _, _, h2⟩ | ⟨pb, po, pc, he, _, _, h4⟩
                · rw [h2] at hp; simp at hp
                obtain ⟨rfl, rfl⟩ : a2 = some ⟨pb, po, none⟩ ∧ c2 = pc := by
                  simp only [Value.slice.injEq] at he
                  exact ⟨he.1, he.2.2⟩
                rcases HQ.out with ⟨_, _, _, h2⟩ | ⟨qb, qo, qc, he', _, _, h4'⟩
                · rw [h2] at hq; simp at hq
                obtain ⟨rfl, rfl⟩ : b2 = some ⟨qb, qo, none⟩ ∧ d2 = qc := by
                  simp only [Value.slice.injEq] at he'
                  exact ⟨he'.1, he'.2.2⟩
                obtain ⟨p1, p2⟩ := (h4 k pp hp).by hb
                obtain ⟨q1, q2⟩ := (h4' k qq hq).by hb
                obtain ⟨name, net⟩ := pp
                obtain ⟨name', net'⟩ := qq
                dsimp only at p1 p2 q1 q2 hat
                have HAT := Lib.hid hat
                clear hp hq hat he he' h4 h4' p2 q2 kA kB kR
                cases hna : (name.toList == name'.toList) with
                | true =>
                  rw [hna] at HAT
                  go_quiet (fail)
                  go_wp2
                  go_meet
                  exact ⟨by rw [HAT.out]; rfl, blwT⟩
                | false =>
                  rw [hna] at HAT
                  go_quiet (fail)
                  go_wp2
                  go_meet
                  exact ⟨by rw [HAT.out]; rfl, blwT⟩
              · have g3 : decide ((q : Int) ≤ (k : Int)) = true := decide_eq_true (by omega)
                have g4 : decide (q ≤ k) = true := decide_eq_true (by omega)
                have HAT := Lib.hid (HN2.out k (by omega))
                clear kA kB kR hlq
                go_quiet (fail)
                go_wp2
                go_meet
                exact ⟨by rw [HAT.out]; rfl, blwT⟩
            · have g1 : decide ((p : Int) ≤ (k : Int)) = true := decide_eq_true (by omega)
              have g2 : decide (p ≤ k) = true := decide_eq_true (by omega)
              have HAT := Lib.hid (HN1.out k (by omega))
              clear kA kB kR hlp
              go_quiet (fail)
              go_wp2
              go_meet
              exact ⟨by rw [HAT.out]; rfl, blwT⟩
          case rest =>
            obtain ⟨rfl, hbc⟩ := hcut
            have kA1 := Blk.by hbc kA
            have kB1 := Blk.by hbc kB
            have kR1 := Blk.by hbc kR
            have hb1 := below_on hbc hb
            clear kA kB kR qA qB lA lB hb hbc
            cases hF : F k with
            | true =>
              have HF := Lib.hid hF
              clear hF
              go_wp2
              refine ⟨⟨k + 1, by omega, by go_num, Lib.hid (fun j hj => ?_), kA1, kB1, kR1, hb1⟩, by simp [intOf]; omega⟩
              by_cases ej : j = k
              · subst ej; exact HF.out
              · exact HI.out j (by omega)
            | false =>
              have hr := HAN.out k hlt hF HI.out
              have hND : namD x.ps y.ps = (k : Int) := HND.out.trans hr
              clear hF hr
              obtain ⟨rfl, rfl, rfl⟩ : (3 : Int) = K1 ∧ (k : Int) = L1 ∧ 0 = R1 := by
                have h := ((xpl_3 (HNX.out.trans HNY.out.symm) (HLN.out.trans HLM.out.symm) (by rw [hND]; omega)).trans (by rw [hND])).symm.trans HX.out
                simp only [Prod.mk.injEq] at h
                exact h
              have qR := kR1.cell
              have fR := kR1.free
              have lR := kR1.lt
              go_wp2
              exact bodyPost_ret (v := .agg #[.int .i64 (3), .int .i64 ((k : Int)), .int .i64 (0)]) (by simp [results, Tryz.results57, go_sem, *]) rfl ⟨rfl, ((hb1.setCell (show w.heap.size ≤ w.heap.size + 2 by omega) _).setCell (show w.heap.size ≤ w.heap.size + 2 by omega) _).setCell (show w.heap.size ≤ w.heap.size + 2 by omega) _⟩
        · obtain rfl : k = M := by omega
          have i1 : ¬ (k : Int) < (k : Int) := by omega
          have HNO := Lib.hid (show namD x.ps y.ps = -1 from HND.out.trans (HAY.out (fun i hi => HI.out i hi)))
          have qA := kA.cell
          have qB := kB.cell
          have lA := kA.lt
          have lB := kB.lt
          clear hlt HI hk
          go_wp2_with fail
          refine (HZY.out _ wr (HU.out.by hb)).mono ?_
          rintro e w1 ⟨go, co, rfl, hO, hb1⟩
          have HO := Lib.hid hO
          have kA1 := Blk.by hb1 kA
          have kB1 := Blk.by hb1 kB
          have kR1 := Blk.by hb1 kR
          have hb1w := below_on hb1 hb
          clear hO kA kB kR hb qA qB lA lB hb1
          have qA := kA1.cell
          have lA := kA1.lt
          go_wp2_with fail
          refine (HZX.out _ w1 (HV.out.by hb1w)).mono ?_
          rintro e w2 ⟨gs, cs, rfl, hS, hb2⟩
          have HS := Lib.hid hS
          have HO2 := Lib.hid (HO.out.by hb2)
          have kA2 := Blk.by hb2 kA1
          have kB2 := Blk.by hb2 kB1
          have kR2 := Blk.by hb2 kR1
          have hb2w := below_on hb2 hb1w
          clear hS HO kA1 kB1 kR1 hb1w qA lA hb2
          go_wp2
          obtain ⟨wo, rfl⟩ : ∃ z : World, z = w2 := ⟨_, rfl⟩
          go_loopw [84] (fun iv wr => ∃ k : Nat, k ≤ n ∧ iv = .int .i64 (k : Int) ∧ Hid (∀ j, j < k → (rowsS x.ds)[j]? = (rowsS y.ds)[j]?) ∧ Below wo.heap.size wo wr) (fun iv _ => n - (intOf iv).toNat)
          case atStart => exact ⟨0, Nat.zero_le _, rfl, Lib.hid (by intro j h; omega), blwT⟩
          case round =>
            obtain ⟨k, hk, rfl, HI, hbo⟩ := hrel
            have kA3 := Blk.by hbo kA2
            have kB3 := Blk.by hbo kB2
            have kR3 := Blk.by hbo kR2
            have hb3w := below_on hbo hb2w
            by_cases hlt : k < n
            · have i1 : (k : Int) < (n : Int) := by omega
              have i2 : decide (k < n) = true := decide_eq_true hlt
              obtain ⟨rx, hrx⟩ : ∃ r, (rowsS x.ds)[k]? = some r := ⟨_, List.getElem?_eq_getElem (by rw [HRLX.out]; exact hlt)⟩
              obtain ⟨ry, hry⟩ : ∃ r, (rowsS y.ds)[k]? = some r := ⟨_, List.getElem?_eq_getElem (by rw [HRLY.out]; exact hlt)⟩
              rcases HS.out.by hbo with ⟨_, _, _, h2⟩ | ⟨xb, xo, xc, he, _, _, h4⟩
              · rw [h2] at hrx; simp at hrx
              rcases HO2.out.by hbo with ⟨_, _, _, h2⟩ | ⟨yb, yo, yc, he', _, _, h4'⟩
              · rw [h2] at hry; simp at hry
              simp only [Value.slice.injEq, Option.some.injEq, Addr.mk.injEq, and_true] at he he'
              obtain ⟨⟨rfl, rfl⟩, ex1, rfl⟩ := he
              obtain ⟨⟨rfl, rfl⟩, ey1, rfl⟩ := he'
              obtain ⟨sx, x1, x2⟩ := h4 k rx hrx
              obtain ⟨sy, y1, y2⟩ := h4' k ry hry
              rw [Nat.zero_add] at x1 y1
              have HX2 := Lib.hid x2
              have HY2 := Lib.hid y2
              have lx := lt_of_cell x1
              have ly := lt_of_cell y1
              dsimp only at lx ly
              have HEQ := Lib.hid (fun w h h' => slicesEqual_any sx sy rx ry w h h')
              obtain ⟨RE, hRE⟩ : ∃ R : Bool, decide (rx = ry) = R := ⟨_, rfl⟩
              rw [hRE] at HEQ
              have HRE := Lib.hid hRE
              have HRX := Lib.hid hrx
              have HRY := Lib.hid hry
              clear hRE hrx hry h4 h4' x2 y2 ex1 ey1
              go_wp2_with fail
              refine (HEQ.out _ HX2.out HY2.out).mono ?_
              rintro e w4 ⟨rfl, nd, rfl⟩
              have hb4 := below_of_drewN wr nd
              have kA4 := Blk.by hb4 kA3
              have kB4 := Blk.by hb4 kB3
              have kR4 := Blk.by hb4 kR3
              have hb4w := below_on hb4 hb3w
              have hbo4 := below_on hb4 hbo
              generalize wr.drewN nd = w4 at *
              clear x1 y1 lx ly hb4 kA3 kB3 kR3 hb3w
              cases RE with
              | true =>
                go_wp2
                refine ⟨⟨k + 1, by omega, by go_num, Lib.hid (fun j hj => ?_), hbo4⟩, by simp [intOf]; omega⟩
                by_cases ej : j = k
                · subst ej; rw [HRX.out, HRY.out, of_decide_eq_true HRE.out]
                · exact HI.out j (by omega)
              | false =>
                have hSZ : sizD x.ds y.ds = (k : Int) := HSD.out.trans (HSN.out k hlt (decide_eq_false (fun e => by
                  rw [HRX.out, HRY.out] at e
                  exact of_decide_eq_false HRE.out (Option.some.inj e))) (fun i hi => decide_eq_true (HI.out i hi)))
                obtain ⟨rfl, rfl, rfl⟩ : (4 : Int) = K1 ∧ (k : Int) = L1 ∧ 0 = R1 := by
                  have h := ((xpl_4 (HNX.out.trans HNY.out.symm) (HLN.out.trans HLM.out.symm) HNO.out (by rw [hSZ]; omega)).trans (by rw [hSZ])).symm.trans HX.out
                  simp only [Prod.mk.injEq] at h
                  exact h
                have qR := kR4.cell
                have fR := kR4.free
                have lR := kR4.lt
                go_wp2
                exact bodyPost_ret (v := .agg #[.int .i64 (4), .int .i64 ((k : Int)), .int .i64 (0)]) (by simp [results, Tryz.results57, go_sem, *]) rfl ⟨rfl, ((hb4w.setCell (show w.heap.size ≤ w.heap.size + 2 by omega) _).setCell (show w.heap.size ≤ w.heap.size + 2 by omega) _).setCell (show w.heap.size ≤ w.heap.size + 2 by omega) _⟩
            · obtain rfl : n = k := by omega
              have i1 : ¬ (n : Int) < (n : Int) := by omega
              have HSO := Lib.hid (show sizD x.ds y.ds = -1 from HSD.out.trans (HSY.out (fun i hi => decide_eq_true (HI.out i hi))))
              obtain ⟨N, hN⟩ : ∃ N : Nat, nx = N := ⟨nx.toNat, by omega⟩
              have HRFX := Lib.hid (fun v w h => refined_n x N HXB.out (HNX.out.trans hN) v w h)
              have HRFY := Lib.hid (fun v w h => refined_n y N HYB.out (HNY.out.trans hN) v w h)
              have HRGX := Lib.hid (ref_rng HXB.out)
              have HRGY := Lib.hid (ref_rng HYB.out)
              have HLNX := Lib.hid (show (refNet x).1.1.length = N ∧ (refNet x).1.2.length ≤ 24 from by have := ref_lens HXB.out; have h1 := HNX.out; have h2 := HLN.out; omega)
              have HLNY := Lib.hid (show (refNet y).1.1.length = N ∧ (refNet y).1.2.length ≤ 24 from by have := ref_lens HYB.out; have h1 := HNY.out; have h2 := HLM.out; omega)
              have hN24 : N ≤ 24 := by omega
              have HC1 := Lib.hid (colD_ge (refNet x).1.1 (refNet y).1.1)
              have HC2 := Lib.hid (colD_ge (refNet x).1.2 (refNet y).1.2)
              have qA := kA3.cell
              have qB := kB3.cell
              have lA := kA3.lt
              have lB := kB3.lt
              clear hlt HI hN HS HO2 hbo
              go_wp2_with fail
              refine (HRFX.out _ wr (HV.out.by hb3w)).mono ?_
              rintro e w5 ⟨e1', f1', e2', LX, f2', qx, rfl, hO1, hO2, hL1, hb5⟩
              have HO1 := Lib.hid hO1.sl
              have HO2 := Lib.hid hO2.sl
              have kA5 := Blk.by hb5 kA3
              have kB5 := Blk.by hb5 kB3
              have kR5 := Blk.by hb5 kR3
              have hb5w := below_on hb5 hb3w
              clear hO1 hO2 hb5 kA3 kB3 kR3 hb3w qA qB lA lB kA2 kB2 kR2 hb2w
              have hal : Below w5.heap.size w5 (w5.alloc (.cells #[.slice e1' N f1', .slice e2' LX f2'] 81)) := (Below.refl _ w5).alloc (Nat.le_refl _) _
              have kX6 : Blk (w5.alloc (.cells #[.slice e1' N f1', .slice e2' LX f2'] 81)) w5.heap.size #[.slice e1' N f1', .slice e2' LX f2'] 81 := Blk.new _ rfl
              have kB6 := Blk.by hal kB5
              have kR6 := Blk.by hal kR5
              have hb6w := below_on hal hb5w
              have HO16 := Lib.hid (HO1.out.by hal)
              have HO26 := Lib.hid (HO2.out.by hal)
              have qB := kB6.cell
              have lB := kB6.lt
              clear hal HO1 HO2 kA5 kB5 kR5 hb5w
              go_wp2_with fail
              generalize w5.alloc (.cells #[.slice e1' N f1', .slice e2' LX f2'] 81) = w6 at *
              generalize w5.heap.size = X at *
              refine (HRFY.out _ w6 (HU.out.by hb6w)).mono ?_
              rintro e w7 ⟨g1', h1', g2', LY, h2', qy, rfl, hO3, hO4, hL2, hb7⟩
              have HO3 := Lib.hid hO3.sl
              have HO4 := Lib.hid hO4.sl
              have HO17 := Lib.hid (HO16.out.by hb7)
              have HO27 := Lib.hid (HO26.out.by hb7)
              have kX7 := Blk.by hb7 kX6
              have kR7 := Blk.by hb7 kR6
              have hb7w := below_on hb7 hb6w
              have hal : Below w7.heap.size w7 (w7.alloc (.cells #[.slice g1' N h1', .slice g2' LY h2'] 81)) := (Below.refl _ w7).alloc (Nat.le_refl _) _
              have kY8 : Blk (w7.alloc (.cells #[.slice g1' N h1', .slice g2' LY h2'] 81)) w7.heap.size #[.slice g1' N h1', .slice g2' LY h2'] 81 := Blk.new _ rfl
              have kX8 := Blk.by hal kX7
              have kR8 := Blk.by hal kR7
              have hb8w := below_on hal hb7w
              have HO18 := Lib.hid (HO17.out.by hal)
              have HO28 := Lib.hid (HO27.out.by hal)
              have HO38 := Lib.hid (HO3.out.by hal)
              have HO48 := Lib.hid (HO4.out.by hal)
              have HL1 := Lib.hid hL1
              have HL2 := Lib.hid hL2
              have qX := kX8.cell
              have lX := kX8.lt
              clear hO3 hO4 hb7 hal HO16 HO26 HO17 HO27 HO3 HO4 kX6 kR6 hb6w kX7 kR7 hb7w qB lB kB6 hL1 hL2
              go_wp2_with fail
              generalize w7.alloc (.cells #[.slice g1' N h1', .slice g2' LY h2'] 81) = w8 at *
              generalize w7.heap.size = Z at *
              refine (HFC.out _ _ _ _ w8 HO18.out HO38.out (by rw [HLNX.out.1]; omega) (by rw [HLNY.out.1]; omega) HRGX.out.1 HRGY.out.1).mono ?_
              rintro e w9 ⟨rfl, hb9⟩
              have kX9 := Blk.by hb9 kX8
              have kY9 := Blk.by hb9 kY8
              have kR9 := Blk.by hb9 kR8
              have hb9w := below_on hb9 hb8w
              have HO29 := Lib.hid (HO28.out.by hb9)
              have HO49 := Lib.hid (HO48.out.by hb9)
              clear hb9 kX8 kY8 kR8 hb8w HO18 HO28 HO38 HO48 qX lX
              obtain ⟨D1, hD1⟩ : ∃ D, colD (refNet x).1.1 (refNet y).1.1 = D := ⟨_, rfl⟩
              rw [hD1] at HC1 ⊢
              have HD1 := Lib.hid hD1
              have hc1 := HC1.out
              clear hD1
              by_cases hge : 0 ≤ D1
              · have f2 : ¬ D1 < 0 := by omega
                have f4 : decide ((0 : Int) ≤ D1) = true := decide_eq_true hge
                obtain ⟨rfl, rfl, rfl⟩ : (5 : Int) = K1 ∧ D1 = L1 ∧ 0 = R1 := by
                  have h := ((xpl_5 (HNX.out.trans HNY.out.symm) (HLN.out.trans HLM.out.symm) HNO.out HSO.out (by rw [HD1.out]; omega)).trans (by rw [HD1.out])).symm.trans HX.out
                  simp only [Prod.mk.injEq] at h
                  exact h
                have qR := kR9.cell
                have fR := kR9.free
                have lR := kR9.lt
                go_wp2
                exact bodyPost_ret (v := .agg #[.int .i64 (5), .int .i64 (D1), .int .i64 (0)]) (by simp [results, Tryz.results57, go_sem, *]) rfl ⟨rfl, ((hb9w.setCell (show w.heap.size ≤ w.heap.size + 2 by omega) _).setCell (show w.heap.size ≤ w.heap.size + 2 by omega) _).setCell (show w.heap.size ≤ w.heap.size + 2 by omega) _⟩
              · have f2 : D1 < 0 := by omega
                have f4 : decide ((0 : Int) ≤ D1) = false := decide_eq_false hge
                have hD1m : D1 = -1 := by omega
                have HDM := Lib.hid (HD1.out.trans hD1m)
                have qX := kX9.cell
                have lX := kX9.lt
                have qY := kY9.cell
                have lY := kY9.lt
                clear hD1m
                go_wp2_with fail
                refine (HFC.out _ _ _ _ w9 HO29.out HO49.out (by have := HLNX.out.2; omega) (by have := HLNY.out.2; omega) HRGX.out.2 HRGY.out.2).mono ?_
                rintro e w10 ⟨rfl, hb10⟩
                have kR10 := Blk.by hb10 kR9
                have hb10w := below_on hb10 hb9w
                clear hb10 kX9 kY9 kR9 hb9w HO29 HO49 qX lX qY lY f2 f4 hge
                obtain ⟨D2, hD2⟩ : ∃ D, colD (refNet x).1.2 (refNet y).1.2 = D := ⟨_, rfl⟩
                rw [hD2] at HC2 ⊢
                have HD2 := Lib.hid hD2
                have hc2 := HC2.out
                clear hD2
                by_cases hge : 0 ≤ D2
                · have f2 : ¬ D2 < 0 := by omega
                  have f4 : decide ((0 : Int) ≤ D2) = true := decide_eq_true hge
                  obtain ⟨rfl, rfl, rfl⟩ : (6 : Int) = K1 ∧ D2 = L1 ∧ 0 = R1 := by
                    have h := ((xpl_6 (HNX.out.trans HNY.out.symm) (HLN.out.trans HLM.out.symm) HNO.out HSO.out HDM.out (by rw [HD2.out]; omega)).trans (by rw [HD2.out])).symm.trans HX.out
                    simp only [Prod.mk.injEq] at h
                    exact h
                  have qR := kR10.cell
                  have fR := kR10.free
                  have lR := kR10.lt
                  go_wp2
                  exact bodyPost_ret (v := .agg #[.int .i64 (6), .int .i64 (D2), .int .i64 (0)]) (by simp [results, Tryz.results57, go_sem, *]) rfl ⟨rfl, ((hb10w.setCell (show w.heap.size ≤ w.heap.size + 2 by omega) _).setCell (show w.heap.size ≤ w.heap.size + 2 by omega) _).setCell (show w.heap.size ≤ w.heap.size + 2 by omega) _⟩
                · have f2 : D2 < 0 := by omega
                  have f4 : decide ((0 : Int) ≤ D2) = false := decide_eq_false hge
                  have hD2m : D2 = -1 := by omega
                  have HDM2 := Lib.hid (HD2.out.trans hD2m)
                  clear hD2m
                  obtain ⟨rfl, rfl, rfl⟩ : (0 : Int) = K1 ∧ 0 = L1 ∧ 0 = R1 := by
                    have h := (xpl_7 (HNX.out.trans HNY.out.symm) (HLN.out.trans HLM.out.symm) HNO.out HSO.out HDM.out HDM2.out).symm.trans HX.out
                    simp only [Prod.mk.injEq] at h
                    exact h
                  have qR := kR10.cell
                  have fR := kR10.free
                  have lR := kR10.lt
                  go_wp2
                  exact bodyPost_ret (v := .agg #[.int .i64 (0), .int .i64 (0), .int .i64 (0)]) (by simp [results, Tryz.results57, go_sem, *]) rfl ⟨rfl, ((hb10w.setCell (show w.heap.size ≤ w.heap.size + 2 by omega) _).setCell (show w.heap.size ≤ w.heap.size + 2 by omega) _).setCell (show w.heap.size ≤ w.heap.size + 2 by omega) _⟩
    · have e3 : ((n : Int) != (n2 : Int)) = true := by simp; omega
      have e4 : ((n : Int) == (n2 : Int)) = false := by simp; omega
      have qA := kA0.cell
      have lA := kA0.lt
      have qB := kB0.cell
      have lB := kB0.lt
      go_enter Tryz.func57, Tryz.ntmps57
      obtain ⟨rfl, rfl, rfl⟩ : (2 : Int) = K1 ∧ (n : Int) = L1 ∧ (n2 : Int) = R1 := by
        have h := ((xpl_2 (HNX.out.trans HNY.out.symm) (by rw [HLN.out, HLM.out]; exact hll)).trans (by rw [HLN.out, HLM.out])).symm.trans HX.out
        simp only [Prod.mk.injEq] at h
        exact h
      have qR := kR0.cell
      have fR := kR0.free
      have lR := kR0.lt
      go_wp2
      exact bodyPost_ret (v := .agg #[.int .i64 (2), .int .i64 ((n : Int)), .int .i64 ((n2 : Int))]) (by simp [results, Tryz.results57, go_sem, *]) rfl ⟨rfl, (((Below.refl _ w).alloc (Nat.le_refl _) _).alloc (by simp) _).alloc (by simp; omega) _⟩
  · have e1 : (nx != ny) = true := by simpa using hnn
    have e2 : (nx == ny) = false := by simpa using hnn
    have qA := kA0.cell
    have lA := kA0.lt
    have qB := kB0.cell
    have lB := kB0.lt
    go_enter Tryz.func57, Tryz.ntmps57
    obtain ⟨rfl, rfl, rfl⟩ : (1 : Int) = K1 ∧ nx = L1 ∧ ny = R1 := by
      have h := ((xpl_1 (by rw [HNX.out, HNY.out]; exact hnn)).trans (by rw [HNX.out, HNY.out])).symm.trans HX.out
      simp only [Prod.mk.injEq] at h
      exact h
    have qR := kR0.cell
    have fR := kR0.free
    have lR := kR0.lt
    go_wp2
    exact bodyPost_ret (v := .agg #[.int .i64 (1), .int .i64 (nx), .int .i64 (ny)]) (by simp [results, Tryz.results57, go_sem, *]) rfl ⟨rfl, (((Below.refl _ w).alloc (Nat.le_refl _) _).alloc (by simp) _).alloc (by simp; omega) _⟩
end Go.Proofs.YtifbffianbgeaaaGreat
