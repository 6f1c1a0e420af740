/- DrawSortDevices: some small netlist. -/
import Derived.Test.YtpiiccfjkgimfaaDrawNl
import Derived.Test.YtpiiccfjkgimfaaBytes
import Derived.Test.YtpiiccfjkgimfaaRens
import Derived.Test.YtpiiccfjkgimfaaSrtM
import Derived.Test.YtpiiccfjkgimfaaImplSo
import Derived.Test.YtpiiccfjkgimfaaNDeg
import Derived.Test.YtpiiccfjkgimfaaCmps
import Derived.Test.YtpiiccfjkgimfaaOpenBy
import Derived.BigRegion
import Derived.Deep.RegionHeldLaw
namespace Go.Proofs.Ytpiiccfjkgimfaa
open Go.RowKit
set_option linter.unusedVariables false
set_option linter.unusedSimpArgs false

set_option maxRecDepth 100000 in
set_option maxHeartbeats 2000000 in
theorem drawSo_any (v0 : Value) (n : Nat) (w : World) (h : Bytes w v0 n) (hn : n ≤ 4096) :
    Calls Try.prog 24 #[v0] w fun e w' => ∃ (v : Value) (x : Nl), e = .returned v ∧ Hid (NlV w' v x) ∧ Hid (Small x) ∧ Below w.heap.size w w' := by
  have HB := Lib.hid h
  obtain ⟨w0, hw0⟩ : ∃ z, z = w.alloc (.cells #[.int .i64 0, .slice none 0 0, .slice none 0 0] 48) := ⟨_, rfl⟩
  have kR0 : Blk w0 w.heap.size #[.int .i64 0, .slice none 0 0, .slice none 0 0] 48 := by rw [hw0]; exact Blk.new _ rfl
  have hb0 : Below w.heap.size w w0 := by rw [hw0]; exact (Below.refl _ w).alloc (Nat.le_refl _) _
  have hs0 : w0.heap.size = w.heap.size + 1 := by rw [hw0]; simp
  have hf := l01From_any v0 n w0 (HB.out.by hb0) hn
  obtain ⟨G, hG⟩ : ∃ G, w0.heap.size = G := ⟨_, rfl⟩
  rw [hG] at hf hs0
  have HF := Lib.hid hf
  have HD := Lib.hid (fun w h => l27DrawNetlist_any w0 G v0 n w h)
  have hGw : w.heap.size < G := by omega
  have HG := Lib.hid hG
  clear h hf hs0 hG
  go_enter Try.func24, Try.ntmps24
  go_wp2_with fail
  (try rw [← hw0])
  clear hw0
  refine HF.out.mono ?_
  rintro e w1 ⟨rfl, hD1, hb1⟩
  have kR1 : Blk w1 w.heap.size _ 48 := Blk.by (by rw [HG.out]; exact hb1) kR0
  have HD1 := Lib.hid hD1
  have hG1 := hD1.lt
  clear hD1 hb1
  go_wp2_with fail
  refine (HD.out _ HD1.out).mono ?_
  rintro e w2 ⟨v, x, rfl, HO, HS, HD2, HW2⟩
  obtain ⟨s1, s2, rfl, r1, r2⟩ := HO.out
  obtain ⟨a1, c1, rfl⟩ := (show ∃ a c, s1 = .slice a x.ds.length c by obtain ⟨l, h, r, o⟩ := r1; exact o.sl.sized)
  obtain ⟨a2, c2, rfl⟩ := (show ∃ a c, s2 = .slice a x.ps.length c by obtain ⟨l, h, r, o⟩ := r2; exact o.sl.sized)
  have kR2 := HW2.out.blk kR1 (by omega)
  have hb2 : Below w.heap.size w w2 := below_on HD2.out.2.1 hb0
  have hsz2 := HW2.out.size
  have f2 := kR2.free
  have c2' := kR2.cell
  have l2 := kR2.lt
  have HNL := Lib.hid ((HO.out.past (Within.off (g := w.heap.size) (o := 0) (.int .i64 x.nets)) (by omega)).past (Within.off (g := w.heap.size) (o := 1) (.slice a1 x.ds.length c1)) (by omega) |>.past (Within.off (g := w.heap.size) (o := 2) (.slice a2 x.ps.length c2)) (by omega))
  clear HD2 HW2 kR1 r1 r2 HD1 hb0 kR0
  go_wp2
  refine bodyPost_ret (v := .agg #[.int .i64 x.nets, .slice a1 x.ds.length c1, .slice a2 x.ps.length c2]) (by simp [results, Try.results24, go_sem, *]) rfl ⟨_, x, rfl, Lib.hid HNL.out.nl, HS, ?_⟩
  repeat (first | (with_reducible exact hb2) | ((with_reducible refine Below.setCell ?_ ?_ _); rotate_left; focus (simp; try omega)))
end Go.Proofs.Ytpiiccfjkgimfaa

/- FnSorted's plain part: a compacted netlist is valid, and each of its nets is used. -/
namespace Go.Proofs.Ytpiiccfjkgimfaa
open Go.RowKit
set_option linter.unusedVariables false
set_option linter.unusedSimpArgs false

theorem degN_pos {ds : List Dv} {net : Int} : 0 < degN ds net ↔ ∃ d ∈ ds, net ∈ d.pins := by
  induction ds with
  | nil => simp [degN]
  | cons y ys ih =>
    simp only [degN, List.mem_cons]
    constructor
    · intro h
      by_cases hc : 0 < y.pins.count net
      · exact ⟨y, .inl rfl, List.count_pos_iff.1 hc⟩
      · obtain ⟨d, h1, h2⟩ := ih.1 (by omega)
        exact ⟨d, .inr h1, h2⟩
    · rintro ⟨d, rfl | h, h2⟩
      · have := List.count_pos_iff.2 h2; omega
      · have := ih.2 ⟨d, h, h2⟩; omega
theorem portB_iff {ps : List Pt} {net : Int} : portB ps net = true ↔ ∃ p ∈ ps, p.net = net := by
  simp [portB]
theorem usedB_iff {x : Nl} {net : Int} : usedB x net = true ↔ (∃ d ∈ x.ds, net ∈ d.pins) ∨ ∃ p ∈ x.ps, p.net = net := by
  unfold usedB
  rw [Bool.or_eq_true, portB_iff, decide_eq_true_eq, degN_pos]
theorem cnt_mono (x : Nl) {a b : Nat} (h : a ≤ b) : cnt x a ≤ cnt x b := by
  induction h with
  | refl => exact Nat.le_refl _
  | step _ ih => rw [cnt_succ]; omega
theorem cnt_lt {x : Nl} {a b : Nat} (h : a < b) (hu : usedB x a = true) : cnt x a < cnt x b := by
  have h1 := cnt_mono x (show a + 1 ≤ b from h)
  rw [cnt_succ, if_pos hu] at h1
  omega
theorem cnt_hit (x : Nl) : ∀ (n k : Nat), k < cnt x n → ∃ i, i < n ∧ usedB x i = true ∧ cnt x i = k
  | 0, k, h => by simp [cnt] at h
  | n + 1, k, h => by
    rw [cnt_succ] at h
    by_cases hk : k < cnt x n
    · obtain ⟨i, a, b⟩ := cnt_hit x n k hk
      exact ⟨i, by omega, b⟩
    · by_cases hu : usedB x n = true
      · rw [if_pos hu] at h
        exact ⟨n, by omega, hu, by omega⟩
      · rw [if_neg hu] at h; omega
theorem nmOf_nmC {x : Nl} {n p : Nat} (h : p < n) : nmOf (nmC x n) (p : Int) = (cnt x p : Int) := by
  simp [nmOf, nmC, h]

/-- Each net that a valid netlist refers to gets a name below the number of names. -/
theorem name_bd {x : Nl} {p : Int} (h0 : 0 ≤ p) (h1 : p < x.nets) (hu : usedB x p = true) : 0 ≤ nmOf (nmC x x.nets.toNat) p ∧ nmOf (nmC x x.nets.toNat) p < (cnt x x.nets.toNat : Int) := by
  obtain ⟨q, rfl⟩ := Int.eq_ofNat_of_zero_le h0
  rw [nmOf_nmC (by omega)]
  have := cnt_lt (x := x) (a := q) (b := x.nets.toNat) (by omega) hu
  omega
theorem cmS_yes {x : Nl} (h : nlB x = true) : cmS x = renS x (nmC x x.nets.toNat) (cnt x x.nets.toNat) := by simp [cmS, h]
theorem cmS_no {x : Nl} (h : nlB x = false) : cmS x = ⟨0, [], []⟩ := by simp [cmS, h]
theorem ptOk_map {x : Nl} {names : List Int} {nets : Int} (i : Nat) (hi : i < x.ps.length) (h : ptOk x.nets x.ps i = true) (hb : ∀ p ∈ x.ps, inB (nmOf names p.net) 0 (nets - 1) = true) : ptOk nets (x.ps.map (renP names)) i = true := by
  have hp := List.getElem?_eq_getElem hi
  have hbi := hb x.ps[i] (List.getElem_mem hi)
  unfold ptOk at *
  rw [List.getElem?_map, hp]
  rw [hp] at h
  simp only [Option.map_some, Bool.and_eq_true] at h ⊢
  refine ⟨h.1, hbi, ?_⟩
  have h3 := h.2.2
  cases i with
  | zero => rfl
  | succ j =>
    simp only [List.getElem?_map] at h3 ⊢
    cases hj : x.ps[j]? with
    | none => rfl
    | some y => rw [hj] at h3; exact h3
theorem cmS_valid {x : Nl} (h : nlB x = true) : nlB (cmS x) = true := by
  rw [cmS_yes h]
  obtain ⟨⟨n0, n1⟩, hl, hp, hd, hpt⟩ := nlB_facts h
  have hcl := cnt_le x x.nets.toNat
  have hpn : ∀ p ∈ x.ps, inB (nmOf (nmC x x.nets.toNat) p.net) 0 ((cnt x x.nets.toNat : Int) - 1) = true := by
    intro p hpm
    obtain ⟨i, hi, e⟩ := List.getElem_of_mem hpm
    have h1 := hpt i hi
    have hin : inB p.net 0 (x.nets - 1) = true := by
      unfold ptOk at h1
      rw [List.getElem?_eq_getElem hi, e] at h1
      simp only [Bool.and_eq_true] at h1
      exact h1.2.1
    have h2 := inB_iff.1 hin
    have h3 := name_bd (x := x) (p := p.net) h2.1 (by omega) (usedB_iff.2 (.inr ⟨p, hpm, rfl⟩))
    exact inB_iff.2 ⟨h3.1, by omega⟩
  simp only [nlB, renS, Bool.and_eq_true, decide_eq_true_eq, List.all_eq_true, List.length_map, ptsB, List.mem_range]
  refine ⟨inB_iff.2 ⟨by omega, by omega⟩, hl, hp, fun d hdm => ?_, fun i hi => ptOk_map i hi (hpt i hi) hpn⟩
  obtain ⟨e, he, rfl⟩ := List.mem_map.1 hdm
  obtain ⟨a1, a2, a3, a4, a5, a6⟩ := dvB_all (hd e he)
  unfold dvB renD
  simp only [Bool.and_eq_true, decide_eq_true_eq, List.all_eq_true, List.length_map]
  refine ⟨a1, a2, a3, a4, fun p hpm => ?_, ?_⟩
  · obtain ⟨q, hq, rfl⟩ := List.mem_map.1 hpm
    have h2 := inB_iff.1 (a5 q hq)
    have h3 := name_bd (x := x) (p := q) h2.1 (by omega) (usedB_iff.2 (.inl ⟨e, he, hq⟩))
    exact inB_iff.2 ⟨h3.1, by omega⟩
  · simpa using a6
theorem cmS_used {x : Nl} (h : nlB x = true) {net : Int} (h0 : 0 ≤ net) (h1 : net < (cmS x).nets) : usedB (cmS x) net = true := by
  obtain ⟨k, rfl⟩ := Int.eq_ofNat_of_zero_le h0
  rw [cmS_yes h] at h1 ⊢
  obtain ⟨i, hi, hu, hk⟩ := cnt_hit x x.nets.toNat k (by simp only [renS] at h1; omega)
  have hn : nmOf (nmC x x.nets.toNat) (i : Int) = (k : Int) := by rw [nmOf_nmC hi, hk]
  rw [usedB_iff]
  rcases usedB_iff.1 hu with ⟨d, hd, hp⟩ | ⟨p, hp, he⟩
  · exact .inl ⟨renD _ d, List.mem_map_of_mem hd, by rw [← hn]; exact List.mem_map_of_mem hp⟩
  · exact .inr ⟨renP _ p, List.mem_map_of_mem hp, by show nmOf _ p.net = _; rw [he, hn]⟩
theorem cmS_sizes {x : Nl} (h : nlB x = true) : (cmS x).ds.length = x.ds.length ∧ (cmS x).nets ≤ x.nets ∧ 0 ≤ (cmS x).nets := by
  rw [cmS_yes h]
  have := cnt_le x x.nets.toNat
  obtain ⟨⟨n0, n1⟩, _⟩ := nlB_facts h
  refine ⟨by simp [renS], ?_, ?_⟩ <;> simp only [renS] <;> omega
/-- How many of the first k devices equal a device. -/
def eqN (ds : List Dv) (y : Dv) (k : Nat) : Nat := (ds.take k).countP fun x => decide (dcf x y = 0)
theorem eqN_step {ds : List Dv} {k : Nat} {x : Dv} (y : Dv) (h : ds[k]? = some x) : eqN ds y (k + 1) = eqN ds y k + if dcf x y = 0 then 1 else 0 := by
  unfold eqN
  rw [take_snoc_of ds k x h, List.countP_append, List.countP_singleton]
  simp
theorem eqN_le (ds : List Dv) (y : Dv) (k : Nat) : eqN ds y k ≤ k := by
  have := List.countP_le_length (l := ds.take k) (p := fun x => decide (dcf x y = 0))
  rw [List.length_take] at this
  unfold eqN; omega
theorem eqN_srt (ds : List Dv) (y : Dv) : eqN (srtD ds) y ds.length = eqN ds y ds.length := by
  unfold eqN
  have e : (srtD ds).take ds.length = srtD ds := List.take_of_length_le (by rw [length_srtD]; exact Nat.le_refl _)
  rw [e, List.take_length]
  exact (srtD_perm ds).countP_eq _
theorem srtD_asc {ds : List Dv} {i j : Nat} {x y : Dv} (hij : i < j) (hx : (srtD ds)[i]? = some x) (hy : (srtD ds)[j]? = some y) : dcf x y ≤ 0 := by
  have h := List.pairwise_iff_getElem.1 (srtD_pairwise ds) i j (List.getElem?_eq_some_iff.1 hx).1 (List.getElem?_eq_some_iff.1 hy).1 hij
  obtain ⟨_, e1⟩ := List.getElem?_eq_some_iff.1 hx
  obtain ⟨_, e2⟩ := List.getElem?_eq_some_iff.1 hy
  rw [e1, e2, dlt_false] at h
  have := dcf_flip x y
  omega
end Go.Proofs.Ytpiiccfjkgimfaa

/- The walk of FnSorted. -/
namespace Go.Proofs.Ytpiiccfjkgimfaa.fnSorted
open Go.RowKit Go.Proofs.Ytpiiccfjkgimfaa
set_option linter.unusedVariables false
set_option linter.unusedSimpArgs false

theorem cmS_ok {x : Nl} (h : ∀ p ∈ x.ps, p.ok) : ∀ p ∈ (cmS x).ps, p.ok := by
  intro p hp
  cases hv : nlB x with
  | false => rw [cmS_no hv] at hp; simp at hp
  | true =>
    rw [cmS_yes hv] at hp
    obtain ⟨q, hq, rfl⟩ := List.mem_map.1 hp
    have hb := nl_nets hv q hq
    have hu := name_bd (x := x) hb.1 hb.2 (usedB_iff.2 (.inr ⟨q, hq, rfl⟩))
    have hc := cnt_le x x.nets.toNat
    obtain ⟨⟨n0, n1⟩, _⟩ := nlB_facts hv
    refine ⟨(h q hq).1, ?_, ?_⟩
    · show -9223372036854775808 ≤ nmOf (nmC x x.nets.toNat) q.net
      omega
    · show nmOf (nmC x x.nets.toNat) q.net ≤ 9223372036854775807
      omega
theorem cmS_fits {x : Nl} (h : Fits x.nets) : Fits (cmS x).nets := by
  cases hv : nlB x with
  | false => rw [cmS_no hv]; exact ⟨by decide, by decide⟩
  | true =>
    have := cmS_sizes hv
    obtain ⟨⟨n0, n1⟩, _⟩ := nlB_facts hv
    exact ⟨by omega, by omega⟩

/-- Whether a net is used, by the pins and the first ports. -/
def usT (y : Nl) (net : Int) (i : Nat) : Bool := decide (0 < degN y.ds net) || portB (y.ps.take i) net
theorem usT_step {y : Nl} {net : Int} {i : Nat} {p : Pt} (h : y.ps[i]? = some p) : usT y net (i + 1) = (usT y net i || decide (p.net = net)) := by
  unfold usT portB
  rw [take_snoc_of y.ps i p h, List.any_append]
  simp [Bool.or_assoc]
theorem usT_all (y : Nl) (net : Int) : usT y net y.ps.length = usedB y net := by
  unfold usT usedB; rw [List.take_length]
theorem usT_zero (y : Nl) (net : Int) : usT y net 0 = decide (0 < degN y.ds net) := by simp [usT, portB]

set_option maxRecDepth 100000 in
set_option maxHeartbeats 8000000 in
theorem walk (v0 : Value) (w : World) (n : Nat) (hB : Bytes w v0 n) :
    Calls Try.prog 6 #[v0] w fun e w' => e = .returned (.bool true) ∧ Below w.heap.size w w' := by
  have HB := Lib.hid hB
  have HBG := Lib.hid (fun w h => big_any v0 n w h)
  by_cases hn : 4096 < n
  · rw [decide_eq_true hn] at HBG
    clear hB hn
    go_enter Try.func6, Try.ntmps6
    go_wp2_with fail
    refine (HBG.out _ HB.out).mono ?_
    rintro e w1 ⟨rfl, rfl⟩
    go_wp2
    go_ret
    exact ⟨rfl, Below.refl _ _⟩
  · rw [decide_eq_false hn] at HBG
    have HDR := Lib.hid (fun w h => drawSo_any v0 n w h (by omega))
    clear hB hn
    go_enter Try.func6, Try.ntmps6
    go_wp2_with fail
    refine (HBG.out _ HB.out).mono ?_
    rintro e w1 ⟨rfl, rfl⟩
    go_wp2_with fail
    refine (HDR.out _ HB.out).mono ?_
    rintro e w1 ⟨v, x, rfl, HNV, HS, hb1⟩
    have HIM := Lib.hid (fun v w h => implSort_any x v w h HS.out.2.2.2.2 HS.out.fits)
    have HSP := Lib.hid (fun v w h => implComp_any x v w h HS.out.2.2.2.2 HS.out.fits)
    have HVX := Lib.hid (fun v w h => specNl_any x v w h HS.out.2.2.2.2 HS.out.fits)
    have HVY := Lib.hid (fun v w h => specNl_any (cmS x) v w h (cmS_ok HS.out.2.2.2.2) (cmS_fits HS.out.fits))
    have HND := Lib.hid (fun net v w h => implNetDegree_any (cmS x) net v w h (cmS_ok HS.out.2.2.2.2) (cmS_fits HS.out.fits))
    obtain ⟨a1, c1, a2, c2, rfl⟩ := HNV.out.sized
    have hbA : Below w1.heap.size w1 (w1.alloc (.cells #[.int .i64 x.nets, .slice a1 x.ds.length c1, .slice a2 x.ps.length c2] 48)) := (Below.refl _ w1).alloc (Nat.le_refl _) _
    have k3 : Blk (w1.alloc (.cells #[.int .i64 x.nets, .slice a1 x.ds.length c1, .slice a2 x.ps.length c2] 48)) w1.heap.size #[.int .i64 x.nets, .slice a1 x.ds.length c1, .slice a2 x.ps.length c2] 48 := Blk.new _ rfl
    have HN2 := Lib.hid (HNV.out.by hbA)
    have hb2 := below_on hbA hb1
    clear HNV hbA hb1
    go_upto_region 4 with fail
    generalize w1.alloc (.cells #[.int .i64 x.nets, .slice a1 x.ds.length c1, .slice a2 x.ps.length c2] 48) = w2 at *
    obtain ⟨T3, hT⟩ : ∃ T, w1.heap.size = T := ⟨_, rfl⟩
    (try rw [hT])
    rw [hT] at k3
    clear hT
    have c3 := k3.cell
    have l3 := k3.lt
    go_wp2_with fail
    refine (HIM.out _ _ HN2.out).mono ?_
    rintro e w3 ⟨v6, rfl, hO3, hb3⟩
    have HX3 := Lib.hid hO3.nl
    obtain ⟨b1, d1, b2, d2, rfl⟩ := hO3.nl.sized
    have k33 := Blk.by hb3 k3
    have HN3 := Lib.hid (HN2.out.by hb3)
    have hb3w := below_on hb3 hb2
    have hbB : Below w3.heap.size w3 (w3.alloc (.cells #[.int .i64 (soS x).nets, .slice b1 (soS x).ds.length d1, .slice b2 (soS x).ps.length d2] 48)) := (Below.refl _ w3).alloc (Nat.le_refl _) _
    have k4 : Blk (w3.alloc (.cells #[.int .i64 (soS x).nets, .slice b1 (soS x).ds.length d1, .slice b2 (soS x).ps.length d2] 48)) w3.heap.size #[.int .i64 (soS x).nets, .slice b1 (soS x).ds.length d1, .slice b2 (soS x).ps.length d2] 48 := Blk.new _ rfl
    have k34 := Blk.by hbB k33
    have HN4 := Lib.hid (HN3.out.by hbB)
    have HX4 := Lib.hid (HX3.out.by hbB)
    have hb4 := below_on hbB hb3w
    clear hb3 hb3w hbB HN3 HX3 hO3 HN2 k33 k3 c3 l3 hb2 HIM
    go_upto_region 5 with fail
    generalize w3.alloc (.cells #[.int .i64 (soS x).nets, .slice b1 (soS x).ds.length d1, .slice b2 (soS x).ps.length d2] 48) = w4 at *
    obtain ⟨T4, hU⟩ : ∃ U, w3.heap.size = U := ⟨_, rfl⟩
    (try rw [hU])
    rw [hU] at k4
    clear hU
    have c3 := k34.cell
    have l3 := k34.lt
    go_wp2_with fail
    refine (HSP.out _ _ HN4.out).mono ?_
    rintro e w5 ⟨v8, rfl, hO5, hb5⟩
    have HY5 := Lib.hid hO5.nl
    obtain ⟨e1, f1, e2, f2, rfl⟩ := hO5.nl.sized
    have hbC : Below w4.heap.size w4 (w5.alloc (.cells #[.int .i64 (cmS x).nets, .slice e1 (cmS x).ds.length f1, .slice e2 (cmS x).ps.length f2] 48)) := below_al hb5 _
    have k5 : Blk (w5.alloc (.cells #[.int .i64 (cmS x).nets, .slice e1 (cmS x).ds.length f1, .slice e2 (cmS x).ps.length f2] 48)) w5.heap.size #[.int .i64 (cmS x).nets, .slice e1 (cmS x).ds.length f1, .slice e2 (cmS x).ps.length f2] 48 := Blk.new _ rfl
    have k36 := Blk.by hbC k34
    have k46 := Blk.by hbC k4
    have HN6 := Lib.hid (HN4.out.by hbC)
    have HX6 := Lib.hid (HX4.out.by hbC)
    have HY6 := Lib.hid (HY5.out.by ((Below.refl _ w5).alloc (Nat.le_refl _) (.cells #[.int .i64 (cmS x).nets, .slice e1 (cmS x).ds.length f1, .slice e2 (cmS x).ps.length f2] 48)))
    have hb6 := below_on hbC hb4
    clear hb5 hbC hO5 HX4 HN4 HY5 k34 k4 c3 l3 hb4 HSP
    go_upto_region 6 with fail
    generalize w5.alloc (.cells #[.int .i64 (cmS x).nets, .slice e1 (cmS x).ds.length f1, .slice e2 (cmS x).ps.length f2] 48) = w6 at *
    obtain ⟨T5, hU⟩ : ∃ U, w5.heap.size = U := ⟨_, rfl⟩
    (try rw [hU])
    rw [hU] at k5
    clear hU
    have c3 := k36.cell
    have l3 := k36.lt
    have c4 := k46.cell
    have l4 := k46.lt
    have c5 := k5.cell
    have l5 := k5.lt
    go_wp2_with fail
    refine (HVX.out _ _ HN6.out).mono ?_
    rintro e w7 ⟨rfl, hb7⟩
    replace k36 := Blk.by hb7 k36
    replace k46 := Blk.by hb7 k46
    replace k5 := Blk.by hb7 k5
    replace HN6 := Lib.hid (HN6.out.by hb7)
    replace HX6 := Lib.hid (HX6.out.by hb7)
    replace HY6 := Lib.hid (HY6.out.by hb7)
    replace hb6 := below_on hb7 hb6
    replace c3 := k36.cell
    replace l3 := k36.lt
    replace c4 := k46.cell
    replace l4 := k46.lt
    replace c5 := k5.cell
    replace l5 := k5.lt
    clear hb7 HVX HBG HDR HB
    cases hv : nlB x with
    | false =>
      have z1 : (soS x).nets = 0 := by rw [soS_no hv]
      have z2 : (cmS x).nets = 0 := by rw [cmS_no hv]
      rw [z1] at c4
      rw [z2] at c5
      clear z1 z2 HND HVY HN6 HX6 HY6 k36 k46 k5
      go_wp2
      go_ret
      exact ⟨rfl, hb6⟩
    | true =>
      have HVD := Lib.hid hv
      have zA : (soS x).ds = srtD x.ds := by rw [soS_yes hv]; rfl
      obtain ⟨z1, z2, z3⟩ := cmS_sizes hv
      have zz : ¬ x.nets < (cmS x).nets := by omega
      have HVY2 := HVY
      rw [cmS_valid hv] at HVY2
      have HVYv := Lib.hid (cmS_valid hv)
      have hlx : (soS x).ds.length = x.ds.length := by rw [zA, length_srtD]
      obtain ⟨⟨n0, n24⟩, hl24, hp8, hdv, _⟩ := nlB_facts hv
      have HUS := Lib.hid (fun net h0 h1 => cmS_used hv (net := net) h0 h1)
      rw [hlx] at c4 k46 HX6
      rw [z1] at c5 k5 HY6
      have HZA := Lib.hid zA
      have HZ1 := Lib.hid z1
      have hpl : (cmS x).ps.length ≤ 8 := by rw [cmS_yes hv]; simp [renS]; exact hp8
      have hxd := HN6.out
      have hxs := HX6.out
      obtain ⟨s1, s2, ee, hdn, _⟩ := hxd
      obtain rfl : Value.slice a1 x.ds.length c1 = s1 := by have := congrArg (fun v => match v with | .agg a => a[1]? | _ => none) ee; simpa using this
      obtain ⟨t1, t2, ef, hdx, _⟩ := hxs
      obtain rfl : Value.slice b1 x.ds.length d1 = t1 := by have := congrArg (fun v => match v with | .agg a => a[1]? | _ => none) ef; simpa using this
      obtain ⟨u1, u2, eg, _, hpy⟩ := HY6.out
      obtain rfl : Value.slice e2 (cmS x).ps.length f2 = u2 := by have := congrArg (fun v => match v with | .agg a => a[2]? | _ => none) eg; simpa using this
      rw [zA] at hdx
      have HDN := Lib.hid hdn
      have HDX := Lib.hid hdx
      have HPY := Lib.hid hpy
      obtain ⟨y, hy⟩ : ∃ y, cmS x = y := ⟨_, rfl⟩
      have HYY := Lib.hid hy
      (try rw [hy] at z2)
      (try rw [hy] at z3)
      (try rw [hy] at zz)
      (try rw [hy] at c5)
      (try rw [hy] at k5)
      (try rw [hy] at HUS)
      (try rw [hy] at HY6)
      (try rw [hy] at HPY)
      (try rw [hy] at HVYv)
      (try rw [hy] at HVY)
      (try rw [hy] at HVY2)
      (try rw [hy] at HND)
      (try rw [hy] at hpl)
      (try rw [hy] at HZ1)
      rw [hy]
      obtain ⟨N, hN⟩ : ∃ N, y.nets = N := ⟨_, rfl⟩
      obtain ⟨M, hM⟩ : ∃ M, y.ps.length = M := ⟨_, rfl⟩
      have HNN := Lib.hid hN
      have HM := Lib.hid hM
      (try rw [hN] at z2)
      (try rw [hN] at z3)
      (try rw [hN] at zz)
      (try rw [hN] at c5)
      (try rw [hN] at k5)
      (try rw [hN] at HUS)
      (try rw [hN] at HY6)
      rw [hN]
      (try rw [hM] at hpl)
      (try rw [hM] at c5)
      (try rw [hM] at k5)
      (try rw [hM] at HPY)
      (try rw [hM] at HY6)
      rw [hM]
      clear hN hM
      clear hdn hdx hpy ee ef eg zA z1 hlx hv hdv hy
      go_wp2_with fail
      refine (HVY2.out _ _ HY6.out).mono ?_
      rintro e w8 ⟨rfl, hb8⟩
      replace k36 := Blk.by hb8 k36
      replace k46 := Blk.by hb8 k46
      replace k5 := Blk.by hb8 k5
      replace HN6 := Lib.hid (HN6.out.by hb8)
      replace HX6 := Lib.hid (HX6.out.by hb8)
      replace HY6 := Lib.hid (HY6.out.by hb8)
      replace HDN := Lib.hid (HDN.out.by hb8)
      replace HDX := Lib.hid (HDX.out.by hb8)
      replace HPY := Lib.hid (HPY.out.by hb8)
      replace hb6 := below_on hb8 hb6
      replace c3 := k36.cell
      replace l3 := k36.lt
      replace c4 := k46.cell
      replace l4 := k46.lt
      replace c5 := k5.cell
      replace l5 := k5.lt
      clear hb8 HVY2 HVY
      go_wp2
      go_loopw [6] (fun vi wr => ∃ i : Nat, i ≤ x.ds.length ∧ vi = .int .i64 i ∧ Below w8.heap.size w8 wr) (fun vi _ => x.ds.length - (intOf vi).toNat)
      case atStart => exact ⟨0, Nat.zero_le _, rfl, Below.refl _ _⟩
      case round =>
        obtain ⟨i, hi, rfl, hbr⟩ := hrel
        clear c3 c4 c5 l3 l4 l5
        have k4r := Blk.by hbr k46
        have c4 := k4r.cell
        have l4 := k4r.lt
        by_cases hlt : i < x.ds.length
        · obtain ⟨D, hD⟩ : ∃ D, x.ds[i]? = some D := ⟨_, List.getElem?_eq_getElem hlt⟩
          obtain ⟨Q, hQ⟩ : ∃ Q, (srtD x.ds)[i]? = some Q := ⟨(srtD x.ds)[i]'(by rw [length_srtD]; exact hlt), List.getElem?_eq_getElem _⟩
          have HDD := Lib.hid hD
          have HQQ := Lib.hid hQ
          have HSX := HDX.out
          rcases HSX with ⟨_, _, ee, h2⟩ | ⟨bx, ox, cx, ee, hx2, hx3, hx4⟩
          · have := length_srtD x.ds; rw [h2] at this; simp at this; omega
          rw [length_srtD] at ee
          obtain ⟨rfl, rfl⟩ : b1 = some ⟨bx, ox, none⟩ ∧ d1 = cx := by simpa using ee
          have HSN := HDN.out
          rcases HSN with ⟨_, _, en, h2⟩ | ⟨bn, on, cn, en, hn2, hn3, hn4⟩
          · rw [h2] at hlt; simp at hlt
          obtain ⟨rfl, rfl⟩ : a1 = some ⟨bn, on, none⟩ ∧ c1 = cn := by simpa using en
          have HX4 := Lib.hid hx4
          have HN4 := Lib.hid hn4
          have i1 : (0 : Int) ≤ (i : Int) := by omega
          have i2 : (i : Int) < (x.ds.length : Int) := by omega
          clear hD hQ hx4 hn4 ee en hx2 hn2
          go_upto_region 13 with fail
          go_cut [83] (fun vb wx => vb = .bool false ∧ Below w8.heap.size w8 wx)
          case first =>
            by_cases hi0 : 0 < i
            · obtain ⟨ip, rfl⟩ : ∃ ip, i = ip + 1 := ⟨i - 1, by omega⟩
              obtain ⟨P, hP⟩ : ∃ P, (srtD x.ds)[ip]? = some P := ⟨(srtD x.ds)[ip]'(by rw [length_srtD]; omega), List.getElem?_eq_getElem _⟩
              have hle := srtD_asc (Nat.lt_succ_self ip) hP HQQ.out
              obtain ⟨sP, p1, p2, p3, p4, hPS⟩ := (HX4.out ip P hP).by hbr
              obtain ⟨sQ, q1, q2, q3, q4, hQS⟩ := (HX4.out (ip + 1) Q HQQ.out).by hbr
              obtain ⟨aP, cP, rfl⟩ := hPS.len
              obtain ⟨aQ, cQ, rfl⟩ := hQS.len
              have HPS := Lib.hid hPS
              have HQS := Lib.hid hQS
              have HCL := Lib.hid (fun W h1 h2 => implCompareDevices_any P.kind P.wd P.len Q.kind Q.wd Q.len (.slice aP P.pins.length cP) (.slice aQ Q.pins.length cQ) P.pins Q.pins W h1 h2)
              have HCF := Lib.hid (show devcmp P.kind Q.kind P.pins Q.pins P.wd Q.wd P.len Q.len = dcf P Q from rfl)
              rw [HCF.out] at HCL
              generalize dcf P Q = r at HCL hle
              have f4 : wr.cell? ⟨T4, 1, none⟩ = some (.slice (some ⟨bx, ox, none⟩) x.ds.length d1) := c4 1
              have hbl := lt_of_cell p1
              dsimp only at hbl
              have i3 : (0 : Int) < (ip : Int) + 1 := by omega
              have i4 : (ip : Int) < (x.ds.length : Int) := by omega
              have i5 : (ip : Int) + 1 < (x.ds.length : Int) := by omega
              have i6 : (0 : Int) ≤ (ip : Int) + 1 := by omega
              have e6 : ((ip : Int) + 1).toNat = ip + 1 := by omega
              have wq : IntKind.i64.wrap (ip : Int) = (ip : Int) := by rw [IntKind.wrap_i64]; omega
              have hnr : ¬ 0 < r := by omega
              have HSB : ∀ w' : World, Below wr.heap.size wr w' → (fun w' => w'.cell? ⟨T4, 1, none⟩ = some (.slice (some ⟨bx, ox, none⟩) x.ds.length d1) ∧ w'.cell? ⟨bx, ox + ip * 4, none⟩ = some (.int .i64 P.kind) ∧ w'.cell? ⟨bx, ox + ip * 4 + 1, none⟩ = some (.slice aP P.pins.length cP) ∧ w'.cell? ⟨bx, ox + ip * 4 + 2, none⟩ = some (.int .i64 P.wd) ∧ w'.cell? ⟨bx, ox + ip * 4 + 3, none⟩ = some (.int .i64 P.len) ∧ w'.cell? ⟨bx, ox + (ip + 1) * 4, none⟩ = some (.int .i64 Q.kind) ∧ w'.cell? ⟨bx, ox + (ip + 1) * 4 + 1, none⟩ = some (.slice aQ Q.pins.length cQ) ∧ w'.cell? ⟨bx, ox + (ip + 1) * 4 + 2, none⟩ = some (.int .i64 Q.wd) ∧ w'.cell? ⟨bx, ox + (ip + 1) * 4 + 3, none⟩ = some (.int .i64 Q.len) ∧ Below wr.heap.size wr w') w' := fun w' hb => ⟨cell_by' hb f4, cell_by' hb p1, cell_by' hb p2, cell_by' hb p3, cell_by' hb p4, cell_by' hb q1, cell_by' hb q2, cell_by' hb q3, cell_by' hb q4, hb⟩
              clear hP hPS hQS HCF c4
              go_region_held3 (fun w' => w'.cell? ⟨T4, 1, none⟩ = some (.slice (some ⟨bx, ox, none⟩) x.ds.length d1) ∧ w'.cell? ⟨bx, ox + ip * 4, none⟩ = some (.int .i64 P.kind) ∧ w'.cell? ⟨bx, ox + ip * 4 + 1, none⟩ = some (.slice aP P.pins.length cP) ∧ w'.cell? ⟨bx, ox + ip * 4 + 2, none⟩ = some (.int .i64 P.wd) ∧ w'.cell? ⟨bx, ox + ip * 4 + 3, none⟩ = some (.int .i64 P.len) ∧ w'.cell? ⟨bx, ox + (ip + 1) * 4, none⟩ = some (.int .i64 Q.kind) ∧ w'.cell? ⟨bx, ox + (ip + 1) * 4 + 1, none⟩ = some (.slice aQ Q.pins.length cQ) ∧ w'.cell? ⟨bx, ox + (ip + 1) * 4 + 2, none⟩ = some (.int .i64 Q.wd) ∧ w'.cell? ⟨bx, ox + (ip + 1) * 4 + 3, none⟩ = some (.int .i64 Q.len) ∧ Below wr.heap.size wr w') (((try (obtain ⟨_, _, _, _, _, _, _, _, _, hSB⟩ := hHeld)); refine HSB _ ?_; ((repeat (first | (with_reducible exact Below.refl _ _) | (with_reducible refine below_drewN ?_ _) | (with_reducible refine Below.drew ?_) | (with_reducible refine below_al ?_ _) | (with_reducible refine below_on (by assumption) ?_) | ((with_reducible refine Below.setCell ?_ ?_ _); rotate_left; focus (first | omega | (simp; done) | (simp; omega))) | (with_reducible assumption))); done)))
                (first | (go_at_call 28; refine (HCL.out _ (HPS.out.by (by ((repeat (first | (with_reducible exact Below.refl _ _) | (with_reducible refine below_drewN ?_ _) | (with_reducible refine Below.drew ?_) | (with_reducible refine below_al ?_ _) | (with_reducible refine below_on (by assumption) ?_) | ((with_reducible refine Below.setCell ?_ ?_ _); rotate_left; focus (first | omega | (simp; done) | (simp; omega))) | (with_reducible assumption))); done))) (HQS.out.by (by ((repeat (first | (with_reducible exact Below.refl _ _) | (with_reducible refine below_drewN ?_ _) | (with_reducible refine Below.drew ?_) | (with_reducible refine below_al ?_ _) | (with_reducible refine below_on (by assumption) ?_) | ((with_reducible refine Below.setCell ?_ ?_ _); rotate_left; focus (first | omega | (simp; done) | (simp; omega))) | (with_reducible assumption))); done)))).mono ?_; rintro e w1 ⟨rfl, hb1⟩))
              all_goals
                have hb2 : Below wr.heap.size wr w1 := (by ((repeat (first | (with_reducible exact Below.refl _ _) | (with_reducible refine below_drewN ?_ _) | (with_reducible refine Below.drew ?_) | (with_reducible refine below_al ?_ _) | (with_reducible refine below_on (by assumption) ?_) | ((with_reducible refine Below.setCell ?_ ?_ _); rotate_left; focus (first | omega | (simp; done) | (simp; omega))) | (with_reducible assumption))); done))
                go_wp2_with fail
                all_goals (try go_meet)
                exact ⟨by first | rfl | exact congrArg Value.bool (decide_eq_false (by omega)), below_on hb2 hbr⟩
            · obtain rfl : i = 0 := by omega
              have i4 : decide ((0 : Int) > 0) = false := by simp
              go_wp2_with fail
              go_region
              all_goals
                go_wp2_with fail
                all_goals (try go_meet)
                exact ⟨rfl, below_on (below_of_drewN _ 1) hbr⟩
          case rest =>
            obtain ⟨rfl, hbc⟩ := hcut
            clear hbr k4r c4 l4
            go_wp2
            go_loopw [7, 8, 9] (fun va vb vk wr => ∃ k : Nat, k ≤ x.ds.length ∧ va = .int .i64 (eqN x.ds D k : Nat) ∧ vb = .int .i64 (eqN (srtD x.ds) D k : Nat) ∧ vk = .int .i64 k ∧ Below w8.heap.size w8 wr) (fun _ _ vk _ => x.ds.length - (intOf vk).toNat)
            case atStart => exact ⟨0, Nat.zero_le _, rfl, rfl, rfl, hbc⟩
            case round =>
              obtain ⟨k, hk, rfl, rfl, rfl, hbw⟩ := hrel
              have eA := eqN_le x.ds D k
              have eB := eqN_le (srtD x.ds) D k
              by_cases hlk : k < x.ds.length
              · have j1 : (0 : Int) ≤ (k : Int) := by omega
                have j2 : (k : Int) < (x.ds.length : Int) := by omega
                have k3r := Blk.by hbw k36
                have c3 := k3r.cell
                have l3 := k3r.lt
                obtain ⟨A, hA⟩ : ∃ A, eqN x.ds D k = A := ⟨_, rfl⟩
                have HA := Lib.hid hA
                obtain ⟨B, hBB⟩ : ∃ B, eqN (srtD x.ds) D k = B := ⟨_, rfl⟩
                have HB := Lib.hid hBB
                rw [hA] at eA ⊢
                rw [hBB] at eB ⊢
                clear hA hBB
                go_wp2_with fail
                clear c3 l3 k3r
                obtain ⟨P0, hP⟩ : ∃ P, (x.ds)[k]? = some P := ⟨_, List.getElem?_eq_getElem (by exact hlk)⟩
                have HST0 := Lib.hid (eqN_step D hP)
                have HPP0 := Lib.hid hP
                clear hP
                obtain ⟨r0, hr⟩ : ∃ r, dcf P0 D = r := ⟨_, rfl⟩
                have HR0 := Lib.hid hr
                rw [hr] at HST0
                clear hr
                go_upto_region 19 with fail
                obtain ⟨wo0, hwo⟩ : ∃ wo : World, wo = w8 := ⟨_, rfl⟩
                clear hwo
                go_cut [102] (fun vb wx => vb = .bool (r0 == 0) ∧ Below w8.heap.size w8 wx)
                case first =>
                  obtain ⟨sP, p1, p2, p3, p4, hPS⟩ := (HN4.out k P0 HPP0.out).by hbw
                  obtain ⟨sQ, q1, q2, q3, q4, hQS⟩ := (HN4.out i D HDD.out).by hbw
                  obtain ⟨aP, cP, rfl⟩ := hPS.len
                  obtain ⟨aQ, cQ, rfl⟩ := hQS.len
                  have HPS := Lib.hid hPS
                  have HQS := Lib.hid hQS
                  have HCL := Lib.hid (fun W h1 h2 => implCompareDevices_any P0.kind P0.wd P0.len D.kind D.wd D.len (.slice aP P0.pins.length cP) (.slice aQ D.pins.length cQ) P0.pins D.pins W h1 h2)
                  have HCF := Lib.hid (show devcmp P0.kind D.kind P0.pins D.pins P0.wd D.wd P0.len D.len = r0 from HR0.out)
                  rw [HCF.out] at HCL
                  have kT3 := Blk.by hbw k36
                  have kT4 := Blk.by hbw k46
                  have f3 : wr.cell? ⟨T3, 1, none⟩ = some (.slice (some ⟨bn, on, none⟩) x.ds.length c1) := kT3.cell 1
                  have f4 : wr.cell? ⟨T4, 1, none⟩ = some (.slice (some ⟨bx, ox, none⟩) x.ds.length d1) := kT4.cell 1
                  have hl3 := kT3.lt
                  have hl4 := kT4.lt
                  have hbl := lt_of_cell p1
                  have hbl2 := lt_of_cell q1
                  dsimp only at hbl hbl2
                  have HSB : ∀ w' : World, Below wr.heap.size wr w' → (fun w' => w'.cell? ⟨T3, 1, none⟩ = some (.slice (some ⟨bn, on, none⟩) x.ds.length c1) ∧ w'.cell? ⟨bn, on + k * 4, none⟩ = some (.int .i64 P0.kind) ∧ w'.cell? ⟨bn, on + k * 4 + 1, none⟩ = some (.slice aP P0.pins.length cP) ∧ w'.cell? ⟨bn, on + k * 4 + 2, none⟩ = some (.int .i64 P0.wd) ∧ w'.cell? ⟨bn, on + k * 4 + 3, none⟩ = some (.int .i64 P0.len) ∧ w'.cell? ⟨bn, on + i * 4, none⟩ = some (.int .i64 D.kind) ∧ w'.cell? ⟨bn, on + i * 4 + 1, none⟩ = some (.slice aQ D.pins.length cQ) ∧ w'.cell? ⟨bn, on + i * 4 + 2, none⟩ = some (.int .i64 D.wd) ∧ w'.cell? ⟨bn, on + i * 4 + 3, none⟩ = some (.int .i64 D.len) ∧ Below wr.heap.size wr w') w' := fun w' hb => ⟨cell_by' hb f3, cell_by' hb p1, cell_by' hb p2, cell_by' hb p3, cell_by' hb p4, cell_by' hb q1, cell_by' hb q2, cell_by' hb q3, cell_by' hb q4, hb⟩
                  clear hPS hQS HCF kT3 kT4
                  go_region_held3 (fun w' => w'.cell? ⟨T3, 1, none⟩ = some (.slice (some ⟨bn, on, none⟩) x.ds.length c1) ∧ w'.cell? ⟨bn, on + k * 4, none⟩ = some (.int .i64 P0.kind) ∧ w'.cell? ⟨bn, on + k * 4 + 1, none⟩ = some (.slice aP P0.pins.length cP) ∧ w'.cell? ⟨bn, on + k * 4 + 2, none⟩ = some (.int .i64 P0.wd) ∧ w'.cell? ⟨bn, on + k * 4 + 3, none⟩ = some (.int .i64 P0.len) ∧ w'.cell? ⟨bn, on + i * 4, none⟩ = some (.int .i64 D.kind) ∧ w'.cell? ⟨bn, on + i * 4 + 1, none⟩ = some (.slice aQ D.pins.length cQ) ∧ w'.cell? ⟨bn, on + i * 4 + 2, none⟩ = some (.int .i64 D.wd) ∧ w'.cell? ⟨bn, on + i * 4 + 3, none⟩ = some (.int .i64 D.len) ∧ Below wr.heap.size wr w') (((try (obtain ⟨_, _, _, _, _, _, _, _, _, hSB⟩ := hHeld)); refine HSB _ ?_; ((repeat (first | (with_reducible exact Below.refl _ _) | (with_reducible refine below_drewN ?_ _) | (with_reducible refine Below.drew ?_) | (with_reducible refine below_al ?_ _) | (with_reducible refine below_on (by assumption) ?_) | ((with_reducible refine Below.setCell ?_ ?_ _); rotate_left; focus (first | omega | (simp; done) | (simp; omega))) | (with_reducible assumption))); done)))
                    (first | (go_at_call 28; refine (HCL.out _ (HPS.out.by (by ((repeat (first | (with_reducible exact Below.refl _ _) | (with_reducible refine below_drewN ?_ _) | (with_reducible refine Below.drew ?_) | (with_reducible refine below_al ?_ _) | (with_reducible refine below_on (by assumption) ?_) | ((with_reducible refine Below.setCell ?_ ?_ _); rotate_left; focus (first | omega | (simp; done) | (simp; omega))) | (with_reducible assumption))); done))) (HQS.out.by (by ((repeat (first | (with_reducible exact Below.refl _ _) | (with_reducible refine below_drewN ?_ _) | (with_reducible refine Below.drew ?_) | (with_reducible refine below_al ?_ _) | (with_reducible refine below_on (by assumption) ?_) | ((with_reducible refine Below.setCell ?_ ?_ _); rotate_left; focus (first | omega | (simp; done) | (simp; omega))) | (with_reducible assumption))); done)))).mono ?_; rintro e w1 ⟨rfl, hb1⟩))
                  all_goals
                    have hb2 : Below wr.heap.size wr w1 := (by ((repeat (first | (with_reducible exact Below.refl _ _) | (with_reducible refine below_drewN ?_ _) | (with_reducible refine Below.drew ?_) | (with_reducible refine below_al ?_ _) | (with_reducible refine below_on (by assumption) ?_) | ((with_reducible refine Below.setCell ?_ ?_ _); rotate_left; focus (first | omega | (simp; done) | (simp; omega))) | (with_reducible assumption))); done))
                    go_wp2_with fail
                    all_goals (try go_meet)
                    exact ⟨by rfl, below_on hb2 hbw⟩
                case rest =>
                  clear hbw
                  obtain ⟨rfl, hbw⟩ := hcut
                  go_upto_if 102 with fail
                  go_cut [7] (fun va wx => va = .int .i64 (eqN (x.ds) D (k + 1) : Nat) ∧ wx = wc)
                  case first =>
                    by_cases hr0 : r0 = 0
                    · have hs := HST0.out
                      rw [if_pos hr0] at hs
                      have hrb : (r0 == 0) = true := by simpa using hr0
                      have wA : IntKind.i64.wrap ((A : Int) + 1) = (A : Int) + 1 := by rw [IntKind.wrap_i64]; omega
                      have HHS := Lib.hid hs
                      clear hr0 hs
                      go_wp2_with fail
                      all_goals (try go_meet)
                      exact ⟨by rw [HHS.out, HA.out]; go_num, rfl⟩
                    · have hs := HST0.out
                      rw [if_neg hr0] at hs
                      have hrb : (r0 == 0) = false := by simpa using hr0
                      have HHS := Lib.hid hs
                      clear hr0 hs
                      go_wp2_with fail
                      all_goals (try go_meet)
                      exact ⟨by rw [HHS.out, HA.out]; go_num, rfl⟩
                  case rest =>
                    obtain ⟨rfl, rfl⟩ := hcut
                    obtain ⟨P1, hP⟩ : ∃ P, (srtD x.ds)[k]? = some P := ⟨_, List.getElem?_eq_getElem (by rw [length_srtD]; exact hlk)⟩
                    have HST1 := Lib.hid (eqN_step D hP)
                    have HPP1 := Lib.hid hP
                    clear hP
                    obtain ⟨r1, hr⟩ : ∃ r, dcf P1 D = r := ⟨_, rfl⟩
                    have HR1 := Lib.hid hr
                    rw [hr] at HST1
                    clear hr
                    go_upto_region 21 with fail
                    obtain ⟨wo1, hwo⟩ : ∃ wo : World, wo = w8 := ⟨_, rfl⟩
                    clear hwo
                    go_cut [116] (fun vb wx => vb = .bool (r1 == 0) ∧ Below w8.heap.size w8 wx)
                    case first =>
                      obtain ⟨wr, hwr⟩ : ∃ wr, wr = wc := ⟨_, rfl⟩
                      subst hwr
                      obtain ⟨sP, p1, p2, p3, p4, hPS⟩ := (HX4.out k P1 HPP1.out).by hbw
                      obtain ⟨sQ, q1, q2, q3, q4, hQS⟩ := (HN4.out i D HDD.out).by hbw
                      obtain ⟨aP, cP, rfl⟩ := hPS.len
                      obtain ⟨aQ, cQ, rfl⟩ := hQS.len
                      have HPS := Lib.hid hPS
                      have HQS := Lib.hid hQS
                      have HCL := Lib.hid (fun W h1 h2 => implCompareDevices_any P1.kind P1.wd P1.len D.kind D.wd D.len (.slice aP P1.pins.length cP) (.slice aQ D.pins.length cQ) P1.pins D.pins W h1 h2)
                      have HCF := Lib.hid (show devcmp P1.kind D.kind P1.pins D.pins P1.wd D.wd P1.len D.len = r1 from HR1.out)
                      rw [HCF.out] at HCL
                      have kT3 := Blk.by hbw k36
                      have kT4 := Blk.by hbw k46
                      have f3 : wr.cell? ⟨T3, 1, none⟩ = some (.slice (some ⟨bn, on, none⟩) x.ds.length c1) := kT3.cell 1
                      have f4 : wr.cell? ⟨T4, 1, none⟩ = some (.slice (some ⟨bx, ox, none⟩) x.ds.length d1) := kT4.cell 1
                      have hl3 := kT3.lt
                      have hl4 := kT4.lt
                      have hbl := lt_of_cell p1
                      have hbl2 := lt_of_cell q1
                      dsimp only at hbl hbl2
                      have HSB : ∀ w' : World, Below wr.heap.size wr w' → (fun w' => w'.cell? ⟨T4, 1, none⟩ = some (.slice (some ⟨bx, ox, none⟩) x.ds.length d1) ∧ w'.cell? ⟨T3, 1, none⟩ = some (.slice (some ⟨bn, on, none⟩) x.ds.length c1) ∧ w'.cell? ⟨bx, ox + k * 4, none⟩ = some (.int .i64 P1.kind) ∧ w'.cell? ⟨bx, ox + k * 4 + 1, none⟩ = some (.slice aP P1.pins.length cP) ∧ w'.cell? ⟨bx, ox + k * 4 + 2, none⟩ = some (.int .i64 P1.wd) ∧ w'.cell? ⟨bx, ox + k * 4 + 3, none⟩ = some (.int .i64 P1.len) ∧ w'.cell? ⟨bn, on + i * 4, none⟩ = some (.int .i64 D.kind) ∧ w'.cell? ⟨bn, on + i * 4 + 1, none⟩ = some (.slice aQ D.pins.length cQ) ∧ w'.cell? ⟨bn, on + i * 4 + 2, none⟩ = some (.int .i64 D.wd) ∧ w'.cell? ⟨bn, on + i * 4 + 3, none⟩ = some (.int .i64 D.len) ∧ Below wr.heap.size wr w') w' := fun w' hb => ⟨cell_by' hb f4, cell_by' hb f3, cell_by' hb p1, cell_by' hb p2, cell_by' hb p3, cell_by' hb p4, cell_by' hb q1, cell_by' hb q2, cell_by' hb q3, cell_by' hb q4, hb⟩
                      clear hPS hQS HCF kT3 kT4
                      go_region_held3 (fun w' => w'.cell? ⟨T4, 1, none⟩ = some (.slice (some ⟨bx, ox, none⟩) x.ds.length d1) ∧ w'.cell? ⟨T3, 1, none⟩ = some (.slice (some ⟨bn, on, none⟩) x.ds.length c1) ∧ w'.cell? ⟨bx, ox + k * 4, none⟩ = some (.int .i64 P1.kind) ∧ w'.cell? ⟨bx, ox + k * 4 + 1, none⟩ = some (.slice aP P1.pins.length cP) ∧ w'.cell? ⟨bx, ox + k * 4 + 2, none⟩ = some (.int .i64 P1.wd) ∧ w'.cell? ⟨bx, ox + k * 4 + 3, none⟩ = some (.int .i64 P1.len) ∧ w'.cell? ⟨bn, on + i * 4, none⟩ = some (.int .i64 D.kind) ∧ w'.cell? ⟨bn, on + i * 4 + 1, none⟩ = some (.slice aQ D.pins.length cQ) ∧ w'.cell? ⟨bn, on + i * 4 + 2, none⟩ = some (.int .i64 D.wd) ∧ w'.cell? ⟨bn, on + i * 4 + 3, none⟩ = some (.int .i64 D.len) ∧ Below wr.heap.size wr w') (((try (obtain ⟨_, _, _, _, _, _, _, _, _, _, hSB⟩ := hHeld)); refine HSB _ ?_; ((repeat (first | (with_reducible exact Below.refl _ _) | (with_reducible refine below_drewN ?_ _) | (with_reducible refine Below.drew ?_) | (with_reducible refine below_al ?_ _) | (with_reducible refine below_on (by assumption) ?_) | ((with_reducible refine Below.setCell ?_ ?_ _); rotate_left; focus (first | omega | (simp; done) | (simp; omega))) | (with_reducible assumption))); done)))
                        (first | (go_at_call 28; refine (HCL.out _ (HPS.out.by (by ((repeat (first | (with_reducible exact Below.refl _ _) | (with_reducible refine below_drewN ?_ _) | (with_reducible refine Below.drew ?_) | (with_reducible refine below_al ?_ _) | (with_reducible refine below_on (by assumption) ?_) | ((with_reducible refine Below.setCell ?_ ?_ _); rotate_left; focus (first | omega | (simp; done) | (simp; omega))) | (with_reducible assumption))); done))) (HQS.out.by (by ((repeat (first | (with_reducible exact Below.refl _ _) | (with_reducible refine below_drewN ?_ _) | (with_reducible refine Below.drew ?_) | (with_reducible refine below_al ?_ _) | (with_reducible refine below_on (by assumption) ?_) | ((with_reducible refine Below.setCell ?_ ?_ _); rotate_left; focus (first | omega | (simp; done) | (simp; omega))) | (with_reducible assumption))); done)))).mono ?_; rintro e w1 ⟨rfl, hb1⟩))
                      all_goals
                        have hb2 : Below wr.heap.size wr w1 := (by ((repeat (first | (with_reducible exact Below.refl _ _) | (with_reducible refine below_drewN ?_ _) | (with_reducible refine Below.drew ?_) | (with_reducible refine below_al ?_ _) | (with_reducible refine below_on (by assumption) ?_) | ((with_reducible refine Below.setCell ?_ ?_ _); rotate_left; focus (first | omega | (simp; done) | (simp; omega))) | (with_reducible assumption))); done))
                        go_wp2_with fail
                        all_goals (try go_meet)
                        exact ⟨by rfl, below_on hb2 hbw⟩
                    case rest =>
                      clear hbw
                      obtain ⟨rfl, hbw⟩ := hcut
                      have hkk : k + 1 ≤ x.ds.length := by omega
                      obtain ⟨C, hC⟩ : ∃ C, eqN x.ds D (k + 1) = C := ⟨_, rfl⟩
                      have HC := Lib.hid hC
                      rw [hC]
                      clear hC
                      by_cases hr0 : r1 = 0
                      · have hs := HST1.out
                        rw [if_pos hr0] at hs
                        have hrb : (r1 == 0) = true := by simpa using hr0
                        have wA : IntKind.i64.wrap ((B : Int) + 1) = (B : Int) + 1 := by rw [IntKind.wrap_i64]; omega
                        have HHS := Lib.hid hs
                        clear hr0 hs
                        go_wp2_with fail
                        exact ⟨⟨k + 1, hkk, by rw [HC.out], by rw [HHS.out, HB.out]; go_num, by go_num, hbw⟩, by first | (simp [intOf]; done) | (simp [intOf]; omega)⟩
                      · have hs := HST1.out
                        rw [if_neg hr0] at hs
                        have hrb : (r1 == 0) = false := by simpa using hr0
                        have HHS := Lib.hid hs
                        clear hr0 hs
                        go_wp2_with fail
                        exact ⟨⟨k + 1, hkk, by rw [HC.out], by rw [HHS.out, HB.out]; go_num, by go_num, hbw⟩, by first | (simp [intOf]; done) | (simp [intOf]; omega)⟩
              · obtain rfl : k = x.ds.length := by omega
                have j3 : ¬ (x.ds.length : Int) < (x.ds.length : Int) := by omega
                have k3r := Blk.by hbw k36
                have c3 := k3r.cell
                have l3 := k3r.lt
                rw [eqN_srt]
                obtain ⟨A, hA⟩ : ∃ A, eqN x.ds D x.ds.length = A := ⟨_, rfl⟩
                rw [hA]
                clear hA eA eB
                go_wp2_with fail
                exact ⟨⟨i + 1, by omega, by go_num, hbw⟩, by first | (simp [intOf]; done) | (simp [intOf]; omega)⟩
        · obtain rfl : i = x.ds.length := by omega
          have j3 : ¬ (x.ds.length : Int) < (x.ds.length : Int) := by omega
          clear k4r c4 l4
          have k4r := Blk.by hbr k46
          have c4 := k4r.cell
          have l4 := k4r.lt
          have k5r := Blk.by hbr k5
          have c5 := k5r.cell
          have l5 := k5r.lt
          obtain ⟨wo, rfl⟩ : ∃ wo, wo = wr := ⟨_, rfl⟩
          go_wp2
          clear c4 l4 k4r c5 l5 k5r HDN HDX HZA HX6 HN6
          go_loopw [10] (fun vn wr => ∃ q : Nat, (q : Int) ≤ N ∧ vn = .int .i64 q ∧ Below w8.heap.size w8 wr) (fun vn _ => N.toNat - (intOf vn).toNat)
          case atStart => exact ⟨0, z3, rfl, hbr⟩
          case round =>
            clear hbr
            obtain ⟨q, hq, rfl, hbq⟩ := hrel
            have k5r := Blk.by hbq k5
            have c5 := k5r.cell
            have l5 := k5r.lt
            by_cases hqn : (q : Int) < N
            · have hu := HUS.out (q : Int) (by omega) hqn
              rw [← usT_all] at hu
              rw [HM.out] at hu
              have HU := Lib.hid hu
              have hnd : ndeg y (q : Int) = (degN y.ds q : Nat) := ndeg_in y q HVYv.out (inB_iff.2 ⟨by omega, by rw [HNN.out]; omega⟩)
              have hc := HND.out (q : Int) _ wr (HY6.out.by hbq)
              rw [hnd] at hc
              have HC := Lib.hid hc
              have hz := usT_zero y (q : Int)
              obtain ⟨G, hG⟩ : ∃ G, degN y.ds q = G := ⟨_, rfl⟩
              rw [hG] at HC hz
              have HZ := Lib.hid hz
              clear hu hnd hc hz hG
              go_wp2_with (go_at_call 29; refine HC.out.mono ?_; rintro e w1 ⟨rfl, hb1⟩)
              have hbz := below_on hb1 hbq
              clear k5r c5 l5
              have k5r := Blk.by hbz k5
              have c5 := k5r.cell
              have l5 := k5r.lt
              go_loopw [11, 12] (fun vu vi wr => ∃ i : Nat, i ≤ M ∧ vu = .bool (usT y q i) ∧ vi = .int .i64 i ∧ Below w8.heap.size w8 wr) (fun _ vi _ => M - (intOf vi).toNat)
              case atStart => exact ⟨0, Nat.zero_le _, by rw [HZ.out]; try (first | rfl | (congr 1; simp)), rfl, hbz⟩
              case round =>
                clear k5r c5 l5 hbz hb1
                obtain ⟨j, hj, rfl, rfl, hbj⟩ := hrel
                have k5r := Blk.by hbj k5
                have c5 := k5r.cell
                have l5 := k5r.lt
                by_cases hjm : j < M
                · have hjm2 : j < y.ps.length := by rw [HM.out]; exact hjm
                  obtain ⟨p, hp⟩ : ∃ p, y.ps[j]? = some p := ⟨_, List.getElem?_eq_getElem hjm2⟩
                  have HP := HPY.out
                  rcases HP with ⟨_, _, _, h2⟩ | ⟨bp, op, cp, ep, hp2, hp3, hp4⟩
                  · rw [h2] at hjm2; simp at hjm2
                  rw [HM.out] at ep
                  obtain ⟨rfl, rfl⟩ : e2 = some ⟨bp, op, none⟩ ∧ f2 = cp := by simpa using ep
                  have hpc := (hp4 j p hp).2
                  have p2 := cell_by' hbj hpc
                  have HST := Lib.hid (usT_step (net := (q : Int)) hp)
                  obtain ⟨u, hu⟩ : ∃ u, usT y q j = u := ⟨_, rfl⟩
                  rw [hu] at HST ⊢
                  have j1 : (0 : Int) ≤ (j : Int) := by omega
                  have j2 : (j : Int) < (M : Int) := by omega
                  generalize p.net = t at p2 HST
                  clear hpc hp4 hp ep hp2 hu hjm2
                  cases u with
                  | true =>
                    go_wp2
                    exact ⟨⟨j + 1, by omega, by rw [HST.out]; rfl, by go_num, hbj⟩, by first | (simp [intOf]; done) | (simp [intOf]; omega)⟩
                  | false =>
                    by_cases ht : t = (q : Int)
                    · have htb : (t == (q : Int)) = true := by simpa using ht
                      have htd := Lib.hid (decide_eq_true ht)
                      clear ht
                      go_wp2
                      exact ⟨⟨j + 1, by omega, by rw [HST.out, htd.out]; rfl, by go_num, hbj⟩, by first | (simp [intOf]; done) | (simp [intOf]; omega)⟩
                    · have htb : (t == (q : Int)) = false := by simpa using ht
                      have htd := Lib.hid (decide_eq_false ht)
                      clear ht
                      go_wp2
                      exact ⟨⟨j + 1, by omega, by rw [HST.out, htd.out]; rfl, by go_num, hbj⟩, by first | (simp [intOf]; done) | (simp [intOf]; omega)⟩
                · obtain rfl : j = M := by omega
                  rw [HU.out]
                  go_wp2
                  exact ⟨⟨q + 1, by omega, by go_num, hbj⟩, by first | (simp [intOf]; done) | (simp [intOf]; omega)⟩
            · go_wp2
              go_ret
              exact ⟨rfl, below_on hbq hb6⟩
end Go.Proofs.Ytpiiccfjkgimfaa.fnSorted
