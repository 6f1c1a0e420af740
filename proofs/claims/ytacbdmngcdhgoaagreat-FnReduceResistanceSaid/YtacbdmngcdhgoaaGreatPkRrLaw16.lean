/- Contracts and plain laws, part 16, for the statement's proof. -/
import Derived.Test.YtacbdmngcdhgoaaGreatPkRrLaw15
import Derived.Shelf.Abstract
import Derived.Lib.SlKeysI
import Derived.BigQuiet
import Derived.BigRegion
import Derived.Deep.DeepCutAuto
import Derived.Deep.RegionHeld3
namespace Go.Proofs.YtacbdmngcdhgoaaGreat
open Go.RowKit Go.Sort
set_option linter.unusedVariables false
set_option linter.unusedSimpArgs false
set_option maxRecDepth 100000 in
set_option maxHeartbeats 2000000 in
theorem sortI_any (lo hi : Nat) (a : Option Addr) (c : Nat) (zs : List Int) (w : World) (h : BldI w lo hi (.slice a zs.length c) zs) (hl : zs.length ≤ 1048576) :
    Calls Tryz.prog 17 #[.slice a zs.length c] w fun e w' => e = .returned (.tuple #[]) ∧ BldI w' lo hi (.slice a zs.length c) (srt zs) ∧ Within lo hi w w' := by
  obtain ⟨hsz, hrow, h3⟩ := h
  rcases hrow.2 with ⟨e, hz⟩ | ⟨gb, cap, cur, e, hbase, hgb, r1, r2, r3, r4⟩
  · have hss : zs = [] := List.eq_nil_of_length_eq_zero hz
    subst hss
    refine (Tryz.slices_Sort_int_none a c w).mono ?_
    rintro e w' ⟨rfl, rfl⟩
    exact ⟨rfl, ⟨hsz, by simpa [icells, srt] using hrow, h3⟩, Within.refl _ _ _⟩
  · have hH : Holds (Value.int .i64) w gb 0 zs.toArray := holds_of_block_i hgb (by have r5 := r4; unfold icells at r5; simpa using r5)
    have hgl : gb < w.heap.size := (Array.getElem?_eq_some_iff.1 hgb).1
    simp only [Value.slice.injEq] at e
    obtain ⟨rfl, _, rfl⟩ := e
    refine (Tryz.slices_Sort_int gb 0 c zs w hH hgl (by omega)).mono ?_
    rintro e w' ⟨rfl, nn, os, rfl⟩
    have hls := length_srt zs
    have hR : (grow (putRow (Value.int .i64) (Sort.ahead w nn) gb 0 ((zs.mergeSort fun x y => decide (x ≤ y)).toArray)) os).ownsRow lo 2 1 (.slice (some ⟨gb, 0, none⟩) zs.length c) zs.length ((srt zs).map (Value.int .i64)) := ownsRow_sorted_i (n := nn) (os := os) (ts := srt zs) hls hbase hgb r1 r2 r3
    have hW : Within lo hi w (grow (putRow (Value.int .i64) (Sort.ahead w nn) gb 0 ((zs.mergeSort fun x y => decide (x ≤ y)).toArray)) os) := grown_within (grownBy_sorted_i (n := nn) (os := os) (srt zs).toArray) h3
    refine ⟨rfl, ⟨Nat.le_trans hsz hW.size, ?_, h3⟩, hW⟩
    rw [hls]
    exact hR
set_option maxRecDepth 100000 in
set_option maxHeartbeats 1000000 in
theorem indexII_any (s0 : Value) (xs : List Int) (z : Int) (w : World) (h : IntSl w s0 xs) :
    Calls Tryz.prog 20 #[s0, .int .i64 z] w fun e w' => e = .returned (.int .i64 (fidx (fun y => decide (y = z)) xs)) ∧ Below w.heap.size w w' := by
  have HH := Lib.hid (fun k x => @fidx_hit Int (fun y => decide (y = z)) xs k x)
  have HM := Lib.hid (@fidx_miss Int (fun y => decide (y = z)) xs)
  rcases h with ⟨a, c, rfl, rfl⟩ | ⟨b, off, cap, rfl, h2, h3, h4⟩
  · have hr := Lib.hid (HM.out (by simp))
    generalize fidx (fun y => decide (y = z)) [] = r at *
    go_enter Tryz.func20, Tryz.ntmps20
    go_wp2
    go_loopw [8] (fun i wr => i = .int .i64 0 ∧ wr = w) (fun _ _ => 0)
    case atStart => exact ⟨rfl, rfl⟩
    case round =>
      obtain ⟨rfl, rfl⟩ := hrel
      go_wp2
      go_ret
      exact ⟨ret_i64 hr.out.symm, Below.refl _ _⟩
  · generalize fidx (fun y => decide (y = z)) xs = r at *
    unfold maxLen at h3
    go_enter Tryz.func20, Tryz.ntmps20
    go_wp2
    go_loopw [5, 8] (fun _ i wr => ∃ k : Nat, k ≤ xs.length ∧ i = .int .i64 k ∧ Hid (∀ (j : Nat) y, j < k → xs[j]? = some y → decide (y = z) = false) ∧ Below w.heap.size w wr) (fun _ i _ => xs.length - (intOf i).toNat)
    case atStart => exact ⟨0, Nat.zero_le _, rfl, Lib.hid (by intro j y hj; omega), Below.refl _ _⟩
    case round =>
      obtain ⟨k, hk, rfl, HI, hb⟩ := hrel
      by_cases hlt : k < xs.length
      · obtain ⟨x, hx⟩ : ∃ x, xs[k]? = some x := ⟨xs[k], List.getElem?_eq_getElem hlt⟩
        have c1 := cell_by' hb (h4 k x hx)
        have HX := Lib.hid hx
        have i1 : (0 : Int) ≤ (k : Int) := by omega
        have i2 : (k : Int) < (xs.length : Int) := by omega
        have lP := lt_of_cell c1
        dsimp only at lP
        clear h4 hx
        by_cases hq : x = z
        · have HQ := Lib.hid hq
          have f1 : (z == x) = true := by simp [hq]
          clear hq
          go_wp2
          go_ret
          exact ⟨ret_i64 (HH.out k x HX.out (decide_eq_true HQ.out) HI.out).symm, hb⟩
        · have HQ := Lib.hid hq
          have f1 : (z == x) = false := by simpa using (fun e : z = x => hq e.symm)
          clear hq
          go_wp2
          exact ⟨⟨k + 1, by omega, by go_num, Lib.hid (fun j y hj hy => by
            by_cases e : j = k
            · subst e; obtain rfl : y = x := Option.some.inj (hy.symm.trans HX.out); exact decide_eq_false HQ.out
            · exact HI.out j y (by omega) hy), hb⟩, by simp [intOf]; omega⟩
      · obtain rfl : k = xs.length := by omega
        have hr := Lib.hid (HM.out (fun j y hy => HI.out j y (List.getElem?_eq_some_iff.1 hy).1 hy))
        go_wp2
        go_ret
        exact ⟨ret_i64 hr.out.symm, hb⟩
set_option maxRecDepth 100000 in
theorem nodeI_any (xs : List Int) (z : Int) (B : Nat) (a : Option Addr) (n c : Nat) (w : World) (hc : w.cell? ⟨B, 0, none⟩ = some (.slice a n c)) (h : IntSl w (.slice a n c) xs) :
    Calls Tryz.prog 19 #[.int .i64 z, .pointer (some ⟨B, 0, none⟩)] w fun e w' => e = .returned (.int .i64 (fidx (fun y => decide (y = z)) xs)) ∧ Below w.heap.size w w' := by
  have HI := Lib.hid (fun w h => indexII_any (.slice a n c) xs z w h)
  have H := Lib.hid h
  have lB := lt_of_cell hc
  dsimp only at lB
  generalize fidx (fun y => decide (y = z)) xs = r at *
  clear h
  go_enter Tryz.func19, Tryz.ntmps19
  go_wp2_with fail
  refine (HI.out _ (H.out.by (Below.refl _ _))).mono ?_
  rintro e w1 ⟨rfl, hb1⟩
  go_wp2
  go_ret
  exact ⟨rfl, hb1⟩
open Go.RowKit
set_option maxRecDepth 100000 in
theorem notR_any (y : Dv) (sv : Value) (W : World) (h : IntSl W sv y.pins) :
    Calls Tryz.prog 15 #[.agg #[.int .i64 y.kind, sv, .int .i64 y.wd, .int .i64 y.len]] W fun e w' => e = .returned (.bool (!decide (y.kind = 2))) ∧ Below W.heap.size W w' := by
  obtain ⟨a, c, rfl⟩ := h.len
  obtain ⟨kind, pins, wd, len⟩ := y
  dsimp only
  clear h
  by_cases hk : kind = 2
  · subst hk
    go_enter Tryz.func15, Tryz.ntmps15
    go_wp2
    go_ret
    exact ⟨rfl, blwT⟩
  · have e1 : (kind != 2) = true := by simpa using hk
    have e2 : (!decide (kind = 2)) = true := by simpa using hk
    rw [e2]
    go_enter Tryz.func15, Tryz.ntmps15
    go_wp2
    go_ret
    exact ⟨ret_bool (by simp [hk]), blwT⟩
theorem anyR_any (sv : Value) (ds : List Dv) (w : World) (h : DvSl w sv ds) :
    Calls Tryz.prog 14 #[sv, .func (.func 15) #[] #[]] w fun e w' => e = .returned (.bool (!ds.all fun d => decide (d.kind = 2))) ∧ Below w.heap.size w w' := by
  have eg : ∀ args w, (callFunc 15 args).run Tryz.prog w = .ok (.enter 15 args) w := enters_of Tryz.func15 (by kernel_rfl) rfl
  refine (containsFuncD_any 15 #[] eg (fun d => !decide (d.kind = 2)) sv ds w h (fun W y s hb hy hs => ?_)).mono ?_
  · exact notR_any y s W hs
  · rintro e w' ⟨rfl, hb⟩
    refine ⟨?_, hb⟩
    congr 2
    rw [List.any_eq_not_all_not]
    simp
set_option maxRecDepth 100000 in
set_option maxHeartbeats 8000000 in
theorem implNr_inv (x : Nl) (v : Value) (a b : ByteArray) (w : World) (h : NlV w v x) (hok : ∀ p ∈ x.ps, p.ok) (hnn : Fits x.nets) (hv : nlB x = false) :
    Calls Tryz.prog 6 #[v, .string a, .string b] w fun e w' => e = .returned (.tuple #[.agg #[.int .i64 0, .int .i64 0], .int .i64 1]) ∧ Below w.heap.size w w' := by
  have HV := Lib.hid (fun v w h => implNl_any x v w h hok hnn)
  rw [hv] at HV
  have HN := Lib.hid h
  obtain ⟨a1, c1, a2, c2, rfl⟩ := h.sized
  clear h hok hnn hv
  go_enter Tryz.func6, Tryz.ntmps6
  go_wp2_with fail
  refine (HV.out _ _ (HN.out.by blwT)).mono ?_
  rintro e w1 ⟨rfl, hb1⟩
  have kR : Blk w1 (w.heap.size + 1) #[.int .i64 0, .int .i64 0] 31 := blkT
  have hW : Below w.heap.size w w1 := blwT
  have qR := kR.cell
  have fR := kR.free
  have lR := kR.lt
  clear hb1
  go_wp2
  refine bodyPost_ret (v := .tuple #[.agg #[.int .i64 0, .int .i64 0], .int .i64 1]) (by simp [results, Tryz.results6, go_sem, *]) rfl ⟨rfl, blwT⟩
set_option maxRecDepth 100000 in
set_option maxHeartbeats 8000000 in
theorem implNr_nf (x : Nl) (v : Value) (a b : ByteArray) (w : World) (h : NlV w v x) (hok : ∀ p ∈ x.ps, p.ok) (hnn : Fits x.nets) (hv : nlB x = true) (hlt : ptN x.ps a < 0 ∨ ptN x.ps b < 0) :
    Calls Tryz.prog 6 #[v, .string a, .string b] w fun e w' => e = .returned (.tuple #[.agg #[.int .i64 0, .int .i64 0], .int .i64 5]) ∧ Below w.heap.size w w' := by
  have HV := Lib.hid (fun v w h => implNl_any x v w h hok hnn)
  rw [hv] at HV
  have HN := Lib.hid h
  obtain ⟨⟨hn0, hn1⟩, hd24, hp8, hdv, _⟩ := nlB_facts hv
  have HPa := Lib.hid (fun v w h => portNet_any x v a w h (by omega) (fun p hp => (nl_netsN hv p hp).1))
  have HPb := Lib.hid (fun v w h => portNet_any x v b w h (by omega) (fun p hp => (nl_netsN hv p hp).1))
  obtain ⟨a1, c1, a2, c2, rfl⟩ := h.sized
  obtain ⟨m, hm⟩ : ∃ m : Nat, x.nets = m := ⟨x.nets.toNat, by omega⟩
  rw [hm] at HN ⊢
  generalize x.ds.length = l1 at *
  generalize x.ps.length = l2 at *
  obtain ⟨BA, hBA⟩ : ∃ B, decide (¬ ptN x.ps a < 0) = B := ⟨_, rfl⟩
  obtain ⟨BB, hBB⟩ : ∃ B, decide (¬ ptN x.ps b < 0) = B := ⟨_, rfl⟩
  have hAB : BA = false ∨ BB = false := by
    rcases hlt with h | h
    · left; rw [← hBA]; simp [h]
    · right; rw [← hBB]; simp [h]
  rw [hBA] at HPa
  rw [hBB] at HPb
  generalize (if ptN x.ps a < 0 then 0 else ptN x.ps a) = NA at *
  generalize (if ptN x.ps b < 0 then 0 else ptN x.ps b) = NB at *
  clear h hok hnn hv hdv hm hn0 hn1 hlt hBA hBB hd24 hp8
  go_enter Tryz.func6, Tryz.ntmps6
  go_wp2_with fail
  refine (HV.out _ _ (HN.out.by blwT)).mono ?_
  rintro e w1 ⟨rfl, hb1⟩
  have kA : Blk w1 w.heap.size #[.int .i64 (m : Int), .slice a1 l1 c1, .slice a2 l2 c2] 27 := blkT
  have kR : Blk w1 (w.heap.size + 1) #[.int .i64 0, .int .i64 0] 31 := blkT
  have hW : Below w.heap.size w w1 := blwT
  have qA := kA.cell
  have lA := kA.lt
  clear hb1
  go_wp2_with fail
  refine (HPa.out _ _ (HN.out.by hW)).mono ?_
  rintro e w2 ⟨rfl, hb2⟩
  have kA2 := Blk.by hb2 kA
  have kR2 := Blk.by hb2 kR
  have hW2 := below_on hb2 hW
  clear qA lA kA kR hW hb2
  have qA := kA2.cell
  have lA := kA2.lt
  go_wp2_with fail
  refine (HPb.out _ _ (HN.out.by hW2)).mono ?_
  rintro e w3 ⟨rfl, hb3⟩
  have kA3 := Blk.by hb3 kA2
  have kR3 := Blk.by hb3 kR2
  have hW3 := below_on hb3 hW2
  clear qA lA kA2 kR2 hW2 hb3
  have qA := kA3.cell
  have lA := kA3.lt
  have qR := kR3.cell
  have fR := kR3.free
  have lR := kR3.lt
  cases BA with
  | false =>
    go_wp2
    refine bodyPost_ret (v := .tuple #[.agg #[.int .i64 0, .int .i64 0], .int .i64 5]) (by simp [results, Tryz.results6, go_sem, *]) rfl ⟨rfl, blwT⟩
  | true =>
    cases BB with
    | false =>
      go_wp2
      refine bodyPost_ret (v := .tuple #[.agg #[.int .i64 0, .int .i64 0], .int .i64 5]) (by simp [results, Tryz.results6, go_sem, *]) rfl ⟨rfl, blwT⟩
    | true => exact absurd hAB (by simp)
set_option maxRecDepth 100000 in
set_option maxHeartbeats 8000000 in
theorem implNr_st (x : Nl) (v : Value) (a b : ByteArray) (w : World) (h : NlV w v x) (hok : ∀ p ∈ x.ps, p.ok) (hnn : Fits x.nets) (hv : nlB x = true) (p q : Nat) (hp : ptN x.ps a = p) (hq : ptN x.ps b = q) (hR : x.ds.all (fun d => decide (d.kind = 2)) = false) :
    Calls Tryz.prog 6 #[v, .string a, .string b] w fun e w' => e = .returned (.tuple #[.agg #[.int .i64 0, .int .i64 0], .int .i64 6]) ∧ Below w.heap.size w w' := by
  have HV := Lib.hid (fun v w h => implNl_any x v w h hok hnn)
  rw [hv] at HV
  have HN := Lib.hid h
  obtain ⟨⟨hn0, hn1⟩, hd24, hp8, hdv, _⟩ := nlB_facts hv
  have HPa := Lib.hid (fun v w h => portNet_any x v a w h (by omega) (fun p hp => (nl_netsN hv p hp).1))
  have HPb := Lib.hid (fun v w h => portNet_any x v b w h (by omega) (fun p hp => (nl_netsN hv p hp).1))
  rw [hp, if_neg (by omega), decide_eq_true (by omega)] at HPa
  rw [hq, if_neg (by omega), decide_eq_true (by omega)] at HPb
  have HAR := Lib.hid (fun sv w h => anyR_any sv x.ds w h)
  rw [hR] at HAR
  obtain ⟨s1, s2, e0, hD, hP⟩ := h
  obtain ⟨a1, c1, rfl⟩ := hD.sized
  obtain ⟨a2, c2, rfl⟩ := hP.sized
  subst e0
  have HD := Lib.hid hD
  obtain ⟨m, hm⟩ : ∃ m : Nat, x.nets = m := ⟨x.nets.toNat, by omega⟩
  rw [hm] at HN ⊢
  generalize x.ds.length = l1 at *
  generalize x.ps.length = l2 at *
  clear hok hnn hv hdv hm hn0 hn1 hd24 hp8 hp hq hR hD hP
  go_enter Tryz.func6, Tryz.ntmps6
  go_wp2_with fail
  refine (HV.out _ _ (HN.out.by blwT)).mono ?_
  rintro e w1 ⟨rfl, hb1⟩
  have kA : Blk w1 w.heap.size #[.int .i64 (m : Int), .slice a1 l1 c1, .slice a2 l2 c2] 27 := blkT
  have kR : Blk w1 (w.heap.size + 1) #[.int .i64 0, .int .i64 0] 31 := blkT
  have hW : Below w.heap.size w w1 := blwT
  have qA := kA.cell
  have lA := kA.lt
  clear hb1
  go_wp2_with fail
  refine (HPa.out _ _ (HN.out.by hW)).mono ?_
  rintro e w2 ⟨rfl, hb2⟩
  have kA2 := Blk.by hb2 kA
  have kR2 := Blk.by hb2 kR
  have hW2 := below_on hb2 hW
  clear qA lA kA kR hW hb2
  have qA := kA2.cell
  have lA := kA2.lt
  go_wp2_with fail
  refine (HPb.out _ _ (HN.out.by hW2)).mono ?_
  rintro e w3 ⟨rfl, hb3⟩
  have kA3 := Blk.by hb3 kA2
  have kR3 := Blk.by hb3 kR2
  have hW3 := below_on hb3 hW2
  clear qA lA kA2 kR2 hW2 hb3
  have qA := kA3.cell
  have lA := kA3.lt
  go_wp2_with fail
  refine (HAR.out _ _ (HD.out.by hW3)).mono ?_
  rintro e w4 ⟨rfl, hb4⟩
  have kR4 := Blk.by hb4 kR3
  have hW4 := below_on hb4 hW3
  have qR := kR4.cell
  have fR := kR4.free
  have lR := kR4.lt
  clear qA lA kA3 kR3 hb4
  go_wp2
  refine bodyPost_ret (v := .tuple #[.agg #[.int .i64 0, .int .i64 0], .int .i64 6]) (by simp [results, Tryz.results6, go_sem, *]) rfl ⟨rfl, blwT⟩
theorem IntSl.excN {E : Nat → Prop} {w w' : World} {g n c : Nat} {xs : List Int} (h : Exc E w w') (hg : ¬ E g) (hI : IntSl w (.slice (some ⟨g, 0, none⟩) n c) xs) : IntSl w' (.slice (some ⟨g, 0, none⟩) n c) xs := by
  rcases hI with h0 | ⟨b, off, cap, e, h1, h2, h3⟩
  · exact .inl h0
  · have gb : g = b := by
      injection e with ea
      injection ea with ea
      injection ea
    exact .inr ⟨b, off, cap, e, h1, h2, fun i z hz => h.cellE (h3 i z hz) (by rw [← gb]; exact hg)⟩
set_option maxRecDepth 100000 in
set_option maxHeartbeats 8000000 in
theorem implNr_good (x : Nl) (v : Value) (a b : ByteArray) (w : World) (h : NlV w v x) (hok : ∀ p ∈ x.ps, p.ok) (hnn : Fits x.nets) (hv : nlB x = true) (p q : Nat) (hp : ptN x.ps a = p) (hq : ptN x.ps b = q) (hpn : (p : Int) < x.nets) (hqn : (q : Int) < x.nets) (hR : ∀ d ∈ x.ds, d.kind = 2) (N D C : Int) (hres : nrQ x p q = (⟨N, D⟩, C)) :
    Calls Tryz.prog 6 #[v, .string a, .string b] w fun e w' => e = .returned (.tuple #[.agg #[.int .i64 N, .int .i64 D], .int .i64 C]) ∧ Below w.heap.size w w' := by
  have HV := Lib.hid (fun v w h => implNl_any x v w h hok hnn)
  rw [hv] at HV
  have HN := Lib.hid h
  obtain ⟨⟨hn0, hn1⟩, hd24, hp8, hdv, _⟩ := nlB_facts hv
  have HPa := Lib.hid (fun v w h => portNet_any x v a w h (by omega) (fun p hp => (nl_netsN hv p hp).1))
  have HPb := Lib.hid (fun v w h => portNet_any x v b w h (by omega) (fun p hp => (nl_netsN hv p hp).1))
  rw [hp, if_neg (by omega), decide_eq_true (by omega)] at HPa
  rw [hq, if_neg (by omega), decide_eq_true (by omega)] at HPb
  have HAR := Lib.hid (fun sv w h => anyR_any sv x.ds w h)
  rw [show x.ds.all (fun d => decide (d.kind = 2)) = true from List.all_eq_true.2 (fun d hd => decide_eq_true (hR d hd))] at HAR
  have HRM := Lib.hid (fun v w h => implRm_any x v w h hok hnn)
  have hdev := nr_dev hv hR
  have rn : (rmS x).nets = x.nets := by rw [rmS_yes hv]
  have hrl : (rmS x).ds.length ≤ x.ds.length := by rw [rmS_yes hv]; exact List.length_filter_le _ _
  obtain ⟨m, hm⟩ : ∃ m : Nat, x.nets = m := ⟨x.nets.toNat, by omega⟩
  have hm24 : m ≤ 24 := by omega
  unfold nrQ at hres
  obtain ⟨y, hy⟩ : ∃ y, rmS x = y := ⟨_, rfl⟩
  rw [hy] at hdev rn hrl HRM hres
  obtain ⟨dl, hdl⟩ : ∃ dl, y.ds = dl := ⟨_, rfl⟩
  rw [hdl] at hdev hrl hres
  rw [hm] at hres hdev rn hpn hqn
  simp only [Int.toNat_natCast] at hres
  have hok2 := netR_ok (ds := dl) (p := p) (q := q) (m := m) hm24 (fun d hd => by obtain ⟨r, s, e1, e2, _, e3, e4⟩ := hdev d hd; exact ⟨r, s, e1, by omega, e3, e4⟩)
  have HVW := Lib.hid (fun sv w h => implValid_any (netR dl p q m).nodes sv (netR dl p q m).rs w h hok2.1 hok2.2)
  have HER := Lib.hid (fun a b v w h => implEr_any (netR dl p q m) a b v w h hok2.1 hok2.2)
  have hpl : (pinsL dl).length ≤ 72 := by
    have := length_pinsL (ds := dl) (fun d hd => by obtain ⟨r, s, e, _⟩ := hdev d hd; rw [e]; simp)
    omega
  have hpos : ∀ d ∈ dl, ∀ z ∈ d.pins, 0 ≤ z ∧ z < m := fun d hd z hz => by
    obtain ⟨r, s, e, h1, _⟩ := hdev d hd
    rw [e] at hz
    rcases List.mem_cons.1 hz with rfl | hz
    · omega
    · obtain rfl : z = (s : Int) := by simpa using hz
      omega
  have HNL := Lib.hid (nt_len (ds := dl) (p := p) (q := q) (n := m) (by omega) (by omega) hpos)
  have HND := Lib.hid (fun (z : Int) hz => nt_node (ds := dl) (p := (p : Int)) (q := (q : Int)) (z := z) (by omega) (by omega) (fun d hd y hy => (hpos d hd y hy).1) hz)
  have HDV := Lib.hid hdev
  have HRES := Lib.hid hres
  have HYD := Lib.hid (And.intro rn hdl)
  have hld : dl.length ≤ 24 := by omega
  have HCL := Lib.hid (fun k => cnR_le dl p q k)
  have HPL := Lib.hid hpl
  obtain ⟨s1, s2, e0, hD, hP⟩ := h
  obtain ⟨a1, c1, rfl⟩ := hD.sized
  obtain ⟨a2, c2, rfl⟩ := hP.sized
  subst e0
  have HD := Lib.hid hD
  rw [hm] at HN ⊢
  generalize x.ds.length = l1 at *
  generalize x.ps.length = l2 at *
  have hpm : p < m := by omega
  have hqm : q < m := by omega
  have hfd : ∀ (a b c : Value) (w : World), (Instr.field 27 (.agg #[a, b, c]) 1).run Tryz.prog w = .ok b w := fun _ _ _ _ => by kernel_rfl
  clear hok hnn hv hdv hm hn0 hn1 hd24 hp8 hp hq hR hD hP hres hdev hok2 rn hrl hy hdl hpn hqn hpl hpos
  go_enter Tryz.func6, Tryz.ntmps6
  go_wp2_with fail
  refine (HV.out _ _ (HN.out.by blwT)).mono ?_
  rintro e w1 ⟨rfl, hb1⟩
  have kA : Blk w1 w.heap.size #[.int .i64 (m : Int), .slice a1 l1 c1, .slice a2 l2 c2] 27 := blkT
  have kR : Blk w1 (w.heap.size + 1) #[.int .i64 0, .int .i64 0] 31 := blkT
  have hW : Below w.heap.size w w1 := blwT
  have qA := kA.cell
  have lA := kA.lt
  clear hb1
  go_wp2_with fail
  refine (HPa.out _ _ (HN.out.by hW)).mono ?_
  rintro e w2 ⟨rfl, hb2⟩
  have kA2 := Blk.by hb2 kA
  have kR2 := Blk.by hb2 kR
  have hW2 := below_on hb2 hW
  clear qA lA kA kR hW hb2
  have qA := kA2.cell
  have lA := kA2.lt
  go_wp2_with fail
  refine (HPb.out _ _ (HN.out.by hW2)).mono ?_
  rintro e w3 ⟨rfl, hb3⟩
  have kA3 := Blk.by hb3 kA2
  have kR3 := Blk.by hb3 kR2
  have hW3 := below_on hb3 hW2
  clear qA lA kA2 kR2 hW2 hb3
  have qA := kA3.cell
  have lA := kA3.lt
  go_wp2_with fail
  refine (HAR.out _ _ (HD.out.by hW3)).mono ?_
  rintro e w4 ⟨rfl, hb4⟩
  have kA4 := Blk.by hb4 kA3
  have kR4 := Blk.by hb4 kR3
  have hW4 := below_on hb4 hW3
  have hgap : w.heap.size + 1 < w4.heap.size := kR4.lt
  clear qA lA kA3 kR3 hW3 hb4
  have qA := kA4.cell
  have lA := kA4.lt
  have hal : Below w4.heap.size w4 (w4.alloc (.cells #[.int .i64 p, .int .i64 q] 2)) := (Below.refl _ w4).alloc (Nat.le_refl _) _
  have kG : Blk (w4.alloc (.cells #[.int .i64 p, .int .i64 q] 2)) w4.heap.size #[.int .i64 p, .int .i64 q] 2 := Blk.new _ rfl
  have hs4 : w4.heap.size + 1 ≤ (w4.alloc (.cells #[.int .i64 p, .int .i64 q] 2)).heap.size := by simp
  go_wp2_with fail
  refine (HRM.out _ _ (HN.out.by (below_on hal hW4))).mono ?_
  rintro e w5 ⟨v5, rfl, hO5, hb5⟩
  obtain ⟨s3, s4, lo1, hi1, lo2, hi2, rfl, hOD, hOP, ⟨q1, q2⟩, _, _⟩ := hO5
  rw [HYD.out.2] at hOD
  obtain ⟨a3, c3, rfl⟩ := hOD.sl.sized
  obtain ⟨ld, hLD⟩ : ∃ l, dl.length = l := ⟨_, rfl⟩
  rw [hLD] at hOD hld ⊢
  have HLD := Lib.hid hLD
  have hb45 := Below.trans hal (hb5.mono hal.size)
  have kA5 := Blk.by hb45 kA4
  have kR5 := Blk.by hb45 kR4
  have hW5 := below_on hb45 hW4
  have HIB := Lib.hid ((IBld.of (zs := [(p : Int), (q : Int)]) kG rfl (by simp)).by hb5)
  have hs5 := hb5.size
  have hq1 : w4.heap.size + 1 ≤ lo1 := by omega
  obtain ⟨G, hG⟩ : ∃ G, w4.heap.size = G := ⟨_, rfl⟩
  have hal2 : Below w5.heap.size w5 (w5.alloc (.cells #[.slice (some ⟨w4.heap.size, 0, none⟩) 2 2] 44)) := (Below.refl _ w5).alloc (Nat.le_refl _) _
  have kB6 : Blk (w5.alloc (.cells #[.slice (some ⟨w4.heap.size, 0, none⟩) 2 2] 44)) w5.heap.size #[.slice (some ⟨w4.heap.size, 0, none⟩) 2 2] 44 := Blk.new _ rfl
  have kA6 := Blk.by hal2 kA5
  have kR6 := Blk.by hal2 kR5
  have hW6 := below_on hal2 hW5
  have HIB6 := Lib.hid (HIB.out.by hal2)
  have HOD6 := Lib.hid (hOD.by hal2)
  have hs6 : w5.heap.size + 1 ≤ (w5.alloc (.cells #[.slice (some ⟨w4.heap.size, 0, none⟩) 2 2] 44)).heap.size := by simp
  have hs6b : (w5.alloc (.cells #[.slice (some ⟨w4.heap.size, 0, none⟩) 2 2] 44)).heap.size ≤ w5.heap.size + 1 := by simp
  have hq2 : hi1 ≤ w5.heap.size := q2
  have hq3 : w4.heap.size + 1 ≤ w5.heap.size := by omega
  clear qA lA kA4 kR4 hW4 hal kG hs4 hb5 hb45 kA5 kR5 hW5 HIB hOD hOP hal2 hLD q1 q2 hs5 hG
  have qB := kB6.cell
  have lB := kB6.lt
  go_wp2
  clear qB lB
  generalize w5.alloc (.cells #[.slice (some ⟨w4.heap.size, 0, none⟩) 2 2] 44) = w6 at *
  generalize w5.heap.size = B at *
  generalize w4.heap.size = G at *
  go_loopw [57, 15] (fun i _ wr => ∃ (k g n c : Nat), k ≤ ld ∧ i = .int .i64 k ∧ Hid (IBld wr g n c ((p : Int) :: (q : Int) :: pinsL (dl.take k))) ∧ (g = G ∨ B < g) ∧ Blk wr B #[.slice (some ⟨g, 0, none⟩) n c] 44 ∧ Hid (Exc (fun b => b = G ∨ b = B) w6 wr)) (fun i _ _ => ld - (intOf i).toNat)
  case atStart => exact ⟨0, G, 2, 2, Nat.zero_le _, rfl, HIB6, .inl rfl, kB6, Lib.hid (Exc.refl _ _)⟩
  case round =>
    obtain ⟨k, g, n, c, hk, rfl, HI, hg, kB, HE⟩ := hrel
    have hX := HE.out
    have hszX := hX.size
    have hgl := HI.out.2.2
    by_cases hlt : k < ld
    · obtain ⟨d, hd⟩ : ∃ d, dl[k]? = some d := ⟨dl[k]'(by rw [HLD.out]; exact hlt), List.getElem?_eq_getElem _⟩
      obtain ⟨r, t, ep, ⟨hr, ht⟩, ek, bw, bl⟩ := HDV.out d (List.mem_of_getElem? hd)
      have HTK := Lib.hid (show pinsL (dl.take (k + 1)) = pinsL (dl.take k) ++ [(r : Int), (t : Int)] by rw [List.take_add_one, hd]; simp [pinsL, ep])
      have hnl : n ≤ 100 := by
        have h1 := HI.out.2.1
        have h2 := length_pinsL (ds := dl.take k) (fun d hd => by obtain ⟨r, s, e, _⟩ := HDV.out d (List.mem_of_mem_take hd); rw [e]; simp)
        have h3 : (dl.take k).length ≤ k := by rw [List.length_take]; omega
        simp only [List.length_cons] at h1
        omega
      rcases OwnDs.exc hX HOD6.out (by intro b h1 h2 h3; omega) with ⟨_, _, _, h0⟩ | ⟨g3, cap, cs, f, h1, h2, h3, h4, h5, h6, h7⟩
      · have h9 := (List.getElem?_eq_some_iff.1 hd).1
        rw [h0] at h9
        exact absurd h9 (Nat.not_lt_zero _)
      obtain ⟨⟨pv, ⟨x0, x1, x2, x3⟩, hOR⟩, hf⟩ := h6 k d hd
      injection h1 with h1a h1b h1c
      clear h1b
      subst h1a h1c
      rw [ep] at hOR
      have HPI := Lib.hid hOR.sl
      obtain ⟨ax, cx, rfl⟩ : ∃ a c, pv = .slice a 2 c := by
        obtain ⟨a, c, e⟩ := hOR.sl.len
        exact ⟨a, c, e⟩
      have c0' := (h5.cell _).trans x0
      have c1' := (h5.cell _).trans x1
      have c2' := (h5.cell _).trans x2
      have c3' := (h5.cell _).trans x3
      have lg := h5.lt
      have j1 : (0 : Int) ≤ (k : Int) := by omega
      have j3 : (k : Int) < (ld : Int) := by omega
      have hgB : ¬ B = g := by omega
      obtain ⟨kd, _, wd, len⟩ := d
      dsimp only at c0' c2' c3'
      clear h3 h4 h6 h7 x0 x1 x2 x3 hd ep ek bw bl hr ht hOR h2 hf h5 hX
      have qB := kB.cell
      have lB := kB.lt
      go_wp2_with (refine list_catX (by rfl) _ _ (by rfl) g n c 2 ((p : Int) :: (q : Int) :: pinsL (dl.take k)) [(r : Int), (t : Int)] (by rfl) (HI.out.by blwT) (.slice ax 2 cx) (by rfl) (HPI.out.by blwT) (by rfl) (by omega) ?_; intro g9 c9 w9 hI9 hgr9 hg9; have HI9 := Lib.hid hI9; have hsz9 := hgr9.size; simp only [World.size_alloc] at hsz9 hg9; have hg9' : g9 = G ∨ B < g9 := (by omega); have hgB9 : ¬ B = g9 := (by omega); have hgB9' : ¬ g9 = B := (by omega); have kB9 : Blk w9 B #[.slice (some ⟨g, 0, none⟩) n c] 44 := (hgr9.block B (kB.past _).lt (fun e => hgB (Option.some.inj e))).trans (kB.past _); have HE9 := Lib.hid ((HE.out.alloc (.cells #[.int .i64 kd, .slice ax 2 cx, .int .i64 wd, .int .i64 len] 46)).thn (grown_exc hgr9) (fun b hb h => (by rcases hg with e | e; exact .inl (h.trans e); exact absurd h (by omega)))); have qB9 := kB9.cell; have fB9 := kB9.free; have lB9 := kB9.lt; clear hI9 hgr9 hg9)
      exact ⟨⟨k + 1, g9, n + 2, c9, by omega, by go_num, Lib.hid (by rw [HTK.out]; exact HI9.out.apart hgB9'), hg9', kB9.set 0 _, Lib.hid (HE9.out.set B 0 _ (fun _ => .inr rfl))⟩, by simp [intOf]; omega⟩
    · obtain rfl : k = ld := by omega
      have hT : dl.take k = dl := List.take_of_length_le (by rw [HLD.out]; exact Nat.le_refl _)
      rw [hT] at HI
      have kA7 := hX.blk kA6 (by omega)
      have kR7 := hX.blk kR6 (by omega)
      have hW7 : Below w.heap.size w wr := hX.below hW6 (by intro b hb h; omega)
      have HOD7 := Lib.hid (OwnDs.exc hX HOD6.out (by intro b h1 h2 h3; omega))
      have hNT : ntR dl p q = ddp (srt ((p : Int) :: (q : Int) :: pinsL dl)) := rfl
      obtain ⟨ZS, hZS⟩ : ∃ ZS, (p : Int) :: (q : Int) :: pinsL dl = ZS := ⟨_, rfl⟩
      have hn := HI.out.2.1
      have hnl : n ≤ 100 := by
        have h1 := HPL.out
        simp only [List.length_cons] at hn
        omega
      have hn2 : 2 ≤ n := by
        have h1 := hn
        simp only [List.length_cons] at h1
        omega
      rw [hZS] at HI hn hNT
      have HBL := Lib.hid HI.out.bld
      have HST := Lib.hid (fun w (h : BldI w g (g + 1) (.slice (some ⟨g, 0, none⟩) ZS.length c) ZS) => sortI_any g (g + 1) (some ⟨g, 0, none⟩) c ZS w h (by omega))
      rw [hn] at HST
      have hls : (srt ZS).length = n := (length_srt ZS).trans hn
      have hnt := HNL.out
      obtain ⟨NT, hNN⟩ : ∃ NT, ntR dl p q = NT := ⟨_, rfl⟩
      rw [hNN] at hnt hNT
      have HNTE := Lib.hid hNN
      have HNTD := Lib.hid hNT
      obtain ⟨cn, hcn⟩ : ∃ cn, cnR dl p q m = cn := ⟨_, rfl⟩
      rw [hcn] at hnt
      have HCN := Lib.hid hcn
      have hcn24 : cn ≤ 24 := by have := HCL.out m; omega
      have HLS := Lib.hid (And.intro hls hnt)
      have hgB : ¬ B = g := by omega
      have hgB' : ¬ g = B := by omega
      have j2 : ¬ (k : Int) < (k : Int) := by omega
      clear hT hn hZS hls hnt hNT hNN hcn hX HE HOD6 HI kA6 kR6 hW6 hk
      have qB := kB.cell
      have lB := kB.lt
      go_wp2_with fail
      refine (HST.out _ HBL.out).mono ?_
      rintro e w8 ⟨rfl, hB8, hw8⟩
      have kB8 := hw8.blk kB (by omega)
      have kA8 := hw8.blk kA7 (by omega)
      have kR8 := hw8.blk kR7 (by omega)
      have hW8 := hw8.below hW7 (by omega)
      have HOD8 := Lib.hid (HOD7.out.past hw8 (by omega))
      have hs8 := hw8.size
      rcases hB8.own with ⟨_, _, _, h0⟩ | ⟨blk, cap, cs8, e8, b1, b2, b3, b4, kG8, hc8⟩
      · have h9 := HLS.out.1
        rw [h0] at h9
        have h9 : 0 = n := h9
        omega
      injection e8 with e8a e8b e8c
      clear e8b
      injection e8a with e8a
      injection e8a with e8a
      subst e8a e8c
      have HCP := compactI_any g c (srt ZS) w8 cs8 kG8 hc8 (by have := HLS.out.1; omega) b3 b4
      rw [HLS.out.1] at HCP
      have HCP' := Lib.hid HCP
      have HB8 := Lib.hid (And.intro b3 b4)
      clear hB8 hw8 kB kA7 kR7 hW7 HOD7 qB lB HCP hc8 b1 b2 b3 b4 kG8
      have qB := kB8.cell
      have lB := kB8.lt
      have fB := kB8.free
      go_wp2_with fail
      refine HCP'.out.mono ?_
      rintro e w9 ⟨ds9, rfl, hBd, hdc, hw9, hle⟩
      rw [← HNTD.out] at hdc hle ⊢
      rw [HLS.out.2] at hle ⊢
      have kB9 := hw9.blk kB8 (by omega)
      have kA9 := hw9.blk kA8 (by omega)
      have kR9 := hw9.blk kR8 (by omega)
      have hW9 := hw9.below hW8 (by omega)
      have HOD9 := Lib.hid (HOD8.out.past hw9 (by omega))
      have hs9 := hw9.size
      have HG9 := Lib.hid (And.intro hBd hdc)
      have hle2 : cn ≤ c := by have := HB8.out.1; rw [HLS.out.1] at this hle; omega
      clear qB lB fB kB8 kA8 kR8 hW8 HOD8 hw9 hBd hdc hle
      have qB := kB9.cell
      have lB := kB9.lt
      have fB := kB9.free
      have HI10 : Hid (IntSl (w9.setCell ⟨B, 0, none⟩ (.slice (some ⟨g, 0, none⟩) cn c)) (.slice (some ⟨g, 0, none⟩) cn c) NT) := Lib.hid (.inr ⟨g, 0, c, by rw [HLS.out.2], by rw [HLS.out.2]; exact hle2, HB8.out.2, fun i z hz => by
        rw [Nat.zero_add, (HG9.out.1.apart B 0 _ hgB').cell]
        exact HG9.out.2 i z hz⟩)
      have kB10 := kB9.set 0 (.slice (some ⟨g, 0, none⟩) cn c)
      have kA10 := kA9.apart B 0 (.slice (some ⟨g, 0, none⟩) cn c) (by omega)
      have kR10 := kR9.apart B 0 (.slice (some ⟨g, 0, none⟩) cn c) (by omega)
      have hW10 : Below w.heap.size w (w9.setCell ⟨B, 0, none⟩ (.slice (some ⟨g, 0, none⟩) cn c)) := hW9.setCell (by show w.heap.size ≤ B; omega) _
      have HOD10 := Lib.hid (HOD9.out.past (Within.off (g := B) (o := 0) (.slice (some ⟨g, 0, none⟩) cn c)) (.inl (by omega)))
      have hs10 : (w9.setCell ⟨B, 0, none⟩ (.slice (some ⟨g, 0, none⟩) cn c)).heap.size = w9.heap.size := by simp
      have HS10 := Lib.hid hs10
      have hgZ : g < w9.heap.size := HG9.out.1.lt
      clear hs10 HG9 kA9 kR9 hW9 HOD9
      go_upto_region 19 with fail
      generalize w9.setCell ⟨B, 0, none⟩ (.slice (some ⟨g, 0, none⟩) cn c) = w10 at *
      have hal : Below w10.heap.size w10 (w10.alloc (.cells #[.int .i64 (cn : Int), .slice none 0 0] 55)) := (Below.refl _ w10).alloc (Nat.le_refl _) _
      have kZ : Blk (w10.alloc (.cells #[.int .i64 (cn : Int), .slice none 0 0] 55)) w9.heap.size #[.int .i64 (cn : Int), .slice none 0 0] 55 := Blk.new _ HS10.out.symm
      have kB11 := Blk.by hal kB10
      have kA11 := Blk.by hal kA10
      have kR11 := Blk.by hal kR10
      have hW11 := below_on hal hW10
      have HI11 := Lib.hid (HI10.out.by hal)
      have HOD11 := Lib.hid (HOD10.out.by hal)
      have hs11 : (w10.alloc (.cells #[.int .i64 (cn : Int), .slice none 0 0] 55)).heap.size = w10.heap.size + 1 := by simp
      have bz1 : w9.heap.size < (w10.alloc (.cells #[.int .i64 (cn : Int), .slice none 0 0] 55)).heap.size := kZ.lt
      have bB : B < w9.heap.size := by omega
      clear hal hs11 kB10 kA10 kR10 hW10 HI10 HOD10 qB lB fB kB9
      generalize w10.alloc (.cells #[.int .i64 (cn : Int), .slice none 0 0] 55) = w11 at *
      generalize w9.heap.size = Z at *
      go_wp2
      go_loopw [76, 19] (fun i _ wx => ∃ (j hi2 : Nat) (u : Value), j ≤ k ∧ i = .int .i64 j ∧ BldRes wx w11.heap.size hi2 u ((dl.take j).map (resR dl p q)) ∧ w11.heap.size ≤ hi2 ∧ Blk wx Z #[.int .i64 (cn : Int), u] 55 ∧ Hid (Exc (fun b => b = Z) w11 wx)) (fun i _ _ => k - (intOf i).toNat)
      case atStart => exact ⟨0, w11.heap.size, .slice none 0 0, Nat.zero_le _, rfl, BldRes.nil _ _, Nat.le_refl _, kZ, Lib.hid (Exc.refl _ _)⟩
      case round =>
        obtain ⟨j, hi2, u, hj, rfl, hBR, hh2, kZx, HX2⟩ := hrel
        have hml : ((dl.take j).map (resR dl p q)).length = j := by rw [List.length_map, List.length_take, HLD.out]; omega
        obtain ⟨au2, cu2, rfl⟩ := hBR.sized
        rw [hml] at hBR kZx
        have HBR := Lib.hid hBR
        have HML := Lib.hid hml
        have hh3 := hBR.1
        clear hBR hml
        have hX := HX2.out
        have kBx := hX.blk kB11 (by omega)
        have kRx := hX.blk kR11 (by omega)
        have hWx : Below w.heap.size w wr := hX.below hW11 (by intro b hb hb2; omega)
        have hszx := hX.size
        by_cases hlt2 : j < k
        · obtain ⟨d, hd⟩ : ∃ d, dl[j]? = some d := ⟨dl[j]'(by rw [HLD.out]; exact hlt2), List.getElem?_eq_getElem _⟩
          have hmem := List.mem_of_getElem? hd
          obtain ⟨r, t, ep, ⟨hr, ht⟩, ek, bw, bl⟩ := HDV.out d hmem
          have HRE := Lib.hid (resR_at (ds := dl) (p := p) (q := q) ep)
          have HTK := Lib.hid (show (dl.take (j + 1)).map (resR dl p q) = (dl.take j).map (resR dl p q) ++ [resR dl p q d] by rw [List.take_add_one, hd]; simp)
          have hn0 : fidx (fun y => decide (y = (r : Int))) NT = ((cnR dl p q r : Nat) : Int) := by
            have h := (HND.out (r : Int) (pin_us hmem (by rw [ep]; simp))).1
            rw [HNTE.out, Int.toNat_natCast] at h
            exact h
          have hn1 : fidx (fun y => decide (y = (t : Int))) NT = ((cnR dl p q t : Nat) : Int) := by
            have h := (HND.out (t : Int) (pin_us hmem (by rw [ep]; simp))).1
            rw [HNTE.out, Int.toNat_natCast] at h
            exact h
          have HNA0 := fun w hc h => nodeI_any NT (r : Int) B (some ⟨g, 0, none⟩) cn c w hc h
          have HNA1 := fun w hc h => nodeI_any NT (t : Int) B (some ⟨g, 0, none⟩) cn c w hc h
          rw [hn0] at HNA0
          rw [hn1] at HNA1
          rcases OwnDs.exc hX HOD11.out (by intro b hb hb2 hb3; omega) with ⟨_, _, _, h0⟩ | ⟨g3, cap, cs, f, h1, h2, h3, h4, h5, h6, h7⟩
          · have h9 := (List.getElem?_eq_some_iff.1 hd).1
            rw [h0] at h9
            exact absurd h9 (Nat.not_lt_zero _)
          obtain ⟨⟨pv, ⟨x0, x1, x2, x3⟩, hOR⟩, hf⟩ := h6 j d hd
          injection h1 with h1a h1b h1c
          clear h1b
          subst h1a h1c
          rw [ep] at hOR
          rcases hOR with ⟨_, _, _, h0⟩ | ⟨pb, pcap, ps, rfl, q1', q2', q3, q4, kP, hps⟩
          · exact absurd h0 (by simp)
          have hp0 := hps 0 r rfl
          have hp1 := hps 1 t rfl
          have hcr := HCL.out r
          have hct := HCL.out t
          rw [ek] at x0
          obtain ⟨_, _, wd, len⟩ := d
          dsimp only at ep ek bw bl x0 x2 x3 HRE
          generalize cnR dl p q r = cr at *
          generalize cnR dl p q t = ct at *
          have HNA0' := Lib.hid HNA0
          have HNA1' := Lib.hid HNA1
          have c0' := (h5.cell _).trans x0
          have c1' := (h5.cell _).trans x1
          have c2' := (h5.cell _).trans x2
          have c3' := (h5.cell _).trans x3
          have lg := h5.lt
          have j1 : (0 : Int) ≤ (j : Int) := by omega
          have j3 : (j : Int) < (k : Int) := by omega
          have HP0 := Lib.hid ((kP.cell 0).trans hp0)
          have HP1 := Lib.hid ((kP.cell 1).trans hp1)
          have HIx := Lib.hid (IntSl.excN hX (by omega) HI11.out)
          have cBx : wr.cell? ⟨B, 0, none⟩ = some (.slice (some ⟨g, 0, none⟩) cn c) := kBx.cell 0
          have HCB := Lib.hid cBx
          have bpb : pb < B := by omega
          have HBD := Lib.hid (And.intro hcr (And.intro hct (And.intro bw bl)))
          clear h2 h3 h4 h6 h7 x0 x1 x2 x3 hps hp0 hp1 ep ek hf q3 q4 hd h5 hX hr ht hcr hct bw bl hn0 hn1 HNA0 HNA1 hmem cBx kP q1' q2'
          go_upto_region 22 with fail
          have kD0 : Blk (wr.alloc (.cells #[.int .i64 2, .slice (some ⟨pb, 0, none⟩) 2 pcap, .int .i64 wd, .int .i64 len] 46)) wr.heap.size #[.int .i64 2, .slice (some ⟨pb, 0, none⟩) 2 pcap, .int .i64 wd, .int .i64 len] 46 := Blk.new _ rfl
          have hal : Below wr.heap.size wr (wr.alloc (.cells #[.int .i64 2, .slice (some ⟨pb, 0, none⟩) 2 pcap, .int .i64 wd, .int .i64 len] 46)) := (Below.refl _ wr).alloc (Nat.le_refl _) _
          obtain ⟨hcr, hct, bw, bl⟩ := HBD.out
          have p0 := cell_by' hal HP0.out
          have p1 := cell_by' hal HP1.out
          have cB := cell_by' hal HCB.out
          have kZ0 := Blk.by hal kZx
          have HIv := Lib.hid (HIx.out.by hal)
          have HBR0 := Lib.hid (HBR.out.by hal)
          have HX0 := Lib.hid (HX2.out.on (Exc.ofBelow hal))
          have bw11 : w11.heap.size ≤ wr.heap.size := hszx
          have bZ : Z < w11.heap.size := bz1
          have hhi2 : hi2 ≤ wr.heap.size := hh3
          generalize wr.alloc (.cells #[.int .i64 2, .slice (some ⟨pb, 0, none⟩) 2 pcap, .int .i64 wd, .int .i64 len] 46) = wv at *
          generalize wr.heap.size = DD at *
          clear hal HBR HX2 c0' c1' c2' c3' lg kZx
          have hS : (fun w' : World => Within w11.heap.size hi2 wv w') { wv with drawn := wv.drawn + 1 } := (Within.refl _ _ wv).drewN 1
          refine wp_region_any (by kernel_rfl) (wpAny_of_E (S := fun w' : World => Within w11.heap.size hi2 wv w') (l := 23) _ _ _ _ ?_)
          change wpAnyE _ _ _ _ _ _ _ _ _ wv.drew
          refine wpAnyE_takeL (i := 0) (v := ?_) rfl (by kernel_rfl) (fun _ _ _ h => h) (Or.inl ⟨by rfl, ?_⟩) hS ?_
          rotate_left
          · intro w hSw; (try dsimp only at hSw); have qZ := (hSw.blk kZ0 (by omega)).cell; have lZ := (hSw.blk kZ0 (by omega)).lt; have qD := (hSw.blk kD0 (by omega)).cell; have lD := (hSw.blk kD0 (by omega)).lt; have z0 := hSw.cellW p0 (by omega); have z1 := hSw.cellW p1 (by omega); clear hSw; go_simp; (try with_reducible rfl)
          try simp only [Act.put, List.setIfInBounds_toArray, List.set_cons_zero, List.set_cons_succ]
          refine wpAnyE_takeL (i := 1) (v := ?_) rfl (by kernel_rfl) (fun _ _ _ h => h) (Or.inl ⟨by rfl, ?_⟩) hS ?_
          rotate_left
          · intro w hSw; (try dsimp only at hSw); have qZ := (hSw.blk kZ0 (by omega)).cell; have lZ := (hSw.blk kZ0 (by omega)).lt; have qD := (hSw.blk kD0 (by omega)).cell; have lD := (hSw.blk kD0 (by omega)).lt; have z0 := hSw.cellW p0 (by omega); have z1 := hSw.cellW p1 (by omega); clear hSw; go_simp; (try with_reducible rfl)
          try simp only [Act.put, List.setIfInBounds_toArray, List.set_cons_zero, List.set_cons_succ]
          refine wpAnyE_takeL (i := 2) (v := ?_) rfl (by kernel_rfl) (fun _ _ _ h => h) (Or.inl ⟨by rfl, ?_⟩) hS ?_
          rotate_left
          · intro w hSw; (try dsimp only at hSw); have qZ := (hSw.blk kZ0 (by omega)).cell; have lZ := (hSw.blk kZ0 (by omega)).lt; have qD := (hSw.blk kD0 (by omega)).cell; have lD := (hSw.blk kD0 (by omega)).lt; have z0 := hSw.cellW p0 (by omega); have z1 := hSw.cellW p1 (by omega); clear hSw; go_simp; (try with_reducible rfl)
          try simp only [Act.put, List.setIfInBounds_toArray, List.set_cons_zero, List.set_cons_succ]
          refine wpAnyE_takeL (i := 3) (v := ?_) rfl (by kernel_rfl) (fun _ _ _ h => h) (Or.inl ⟨by rfl, ?_⟩) hS ?_
          rotate_left
          · intro w hSw; (try dsimp only at hSw); have qZ := (hSw.blk kZ0 (by omega)).cell; have lZ := (hSw.blk kZ0 (by omega)).lt; have qD := (hSw.blk kD0 (by omega)).cell; have lD := (hSw.blk kD0 (by omega)).lt; have z0 := hSw.cellW p0 (by omega); have z1 := hSw.cellW p1 (by omega); clear hSw; go_simp; (try with_reducible rfl)
          try simp only [Act.put, List.setIfInBounds_toArray, List.set_cons_zero, List.set_cons_succ]
          refine wpAnyE_takeL (i := 4) (v := ?_) rfl (by kernel_rfl) (fun _ _ _ h => h) (Or.inl ⟨by rfl, ?_⟩) hS ?_
          rotate_left
          · intro w hSw; (try dsimp only at hSw); have qZ := (hSw.blk kZ0 (by omega)).cell; have lZ := (hSw.blk kZ0 (by omega)).lt; have qD := (hSw.blk kD0 (by omega)).cell; have lD := (hSw.blk kD0 (by omega)).lt; have z0 := hSw.cellW p0 (by omega); have z1 := hSw.cellW p1 (by omega); clear hSw; go_simp; (try with_reducible rfl)
          try simp only [Act.put, List.setIfInBounds_toArray, List.set_cons_zero, List.set_cons_succ]
          refine wpAnyE_takeL (i := 5) (v := ?_) rfl (by kernel_rfl) (fun _ _ _ h => h) (Or.inl ⟨by rfl, ?_⟩) hS ?_
          rotate_left
          · intro w hSw; (try dsimp only at hSw); have qZ := (hSw.blk kZ0 (by omega)).cell; have lZ := (hSw.blk kZ0 (by omega)).lt; have qD := (hSw.blk kD0 (by omega)).cell; have lD := (hSw.blk kD0 (by omega)).lt; have z0 := hSw.cellW p0 (by omega); have z1 := hSw.cellW p1 (by omega); clear hSw; go_simp; (try with_reducible rfl)
          try simp only [Act.put, List.setIfInBounds_toArray, List.set_cons_zero, List.set_cons_succ]
          refine wpAnyE_takeL (i := 6) (v := ?_) rfl (by kernel_rfl) (fun _ _ _ h => h) (Or.inl ⟨by rfl, ?_⟩) hS ?_
          rotate_left
          · intro w hSw; (try dsimp only at hSw); have qZ := (hSw.blk kZ0 (by omega)).cell; have lZ := (hSw.blk kZ0 (by omega)).lt; have qD := (hSw.blk kD0 (by omega)).cell; have lD := (hSw.blk kD0 (by omega)).lt; have z0 := hSw.cellW p0 (by omega); have z1 := hSw.cellW p1 (by omega); clear hSw; go_simp; (try with_reducible rfl)
          try simp only [Act.put, List.setIfInBounds_toArray, List.set_cons_zero, List.set_cons_succ]
          refine wpAnyE_takeL (i := 8) (v := ?_) rfl (by kernel_rfl) (fun _ _ _ h => h) (Or.inl ⟨by rfl, ?_⟩) hS ?_
          rotate_left
          · intro w hSw; (try dsimp only at hSw); have qZ := (hSw.blk kZ0 (by omega)).cell; have lZ := (hSw.blk kZ0 (by omega)).lt; have qD := (hSw.blk kD0 (by omega)).cell; have lD := (hSw.blk kD0 (by omega)).lt; have z0 := hSw.cellW p0 (by omega); have z1 := hSw.cellW p1 (by omega); clear hSw; go_simp; (try with_reducible rfl)
          try simp only [Act.put, List.setIfInBounds_toArray, List.set_cons_zero, List.set_cons_succ]
          refine wpAnyE_takeL (i := 9) (v := ?_) rfl (by kernel_rfl) (fun _ _ _ h => h) (Or.inl ⟨by rfl, ?_⟩) hS ?_
          rotate_left
          · intro w hSw; (try dsimp only at hSw); have qZ := (hSw.blk kZ0 (by omega)).cell; have lZ := (hSw.blk kZ0 (by omega)).lt; have qD := (hSw.blk kD0 (by omega)).cell; have lD := (hSw.blk kD0 (by omega)).lt; have z0 := hSw.cellW p0 (by omega); have z1 := hSw.cellW p1 (by omega); clear hSw; go_simp; (try with_reducible rfl)
          try simp only [Act.put, List.setIfInBounds_toArray, List.set_cons_zero, List.set_cons_succ]
          refine wpAnyE_takeL (i := 10) (v := ?_) rfl (by kernel_rfl) (fun _ _ _ h => h) (Or.inl ⟨by rfl, ?_⟩) hS ?_
          rotate_left
          · intro w hSw; (try dsimp only at hSw); have qZ := (hSw.blk kZ0 (by omega)).cell; have lZ := (hSw.blk kZ0 (by omega)).lt; have qD := (hSw.blk kD0 (by omega)).cell; have lD := (hSw.blk kD0 (by omega)).lt; have z0 := hSw.cellW p0 (by omega); have z1 := hSw.cellW p1 (by omega); clear hSw; go_simp; (try with_reducible rfl)
          try simp only [Act.put, List.setIfInBounds_toArray, List.set_cons_zero, List.set_cons_succ]
          refine wpAnyE_takeL (i := 11) (v := ?_) rfl (by kernel_rfl) (fun _ _ _ h => h) (Or.inl ⟨by rfl, ?_⟩) hS ?_
          rotate_left
          · intro w hSw; (try dsimp only at hSw); have qZ := (hSw.blk kZ0 (by omega)).cell; have lZ := (hSw.blk kZ0 (by omega)).lt; have qD := (hSw.blk kD0 (by omega)).cell; have lD := (hSw.blk kD0 (by omega)).lt; have z0 := hSw.cellW p0 (by omega); have z1 := hSw.cellW p1 (by omega); clear hSw; go_simp; (try with_reducible rfl)
          try simp only [Act.put, List.setIfInBounds_toArray, List.set_cons_zero, List.set_cons_succ]
          refine wpAnyE_takeL (i := 12) (v := ?_) rfl (by kernel_rfl) (fun _ _ _ h => h) (Or.inl ⟨by rfl, ?_⟩) hS ?_
          rotate_left
          · intro w hSw; (try dsimp only at hSw); have qZ := (hSw.blk kZ0 (by omega)).cell; have lZ := (hSw.blk kZ0 (by omega)).lt; have qD := (hSw.blk kD0 (by omega)).cell; have lD := (hSw.blk kD0 (by omega)).lt; have z0 := hSw.cellW p0 (by omega); have z1 := hSw.cellW p1 (by omega); clear hSw; go_simp; (try with_reducible rfl)
          try simp only [Act.put, List.setIfInBounds_toArray, List.set_cons_zero, List.set_cons_succ]
          refine wpAnyE_takeL (i := 14) (v := ?_) rfl (by kernel_rfl) (fun _ _ _ h => h) (Or.inl ⟨by rfl, ?_⟩) hS ?_
          rotate_left
          · intro w hSw; (try dsimp only at hSw); have qZ := (hSw.blk kZ0 (by omega)).cell; have lZ := (hSw.blk kZ0 (by omega)).lt; have qD := (hSw.blk kD0 (by omega)).cell; have lD := (hSw.blk kD0 (by omega)).lt; have z0 := hSw.cellW p0 (by omega); have z1 := hSw.cellW p1 (by omega); clear hSw; go_simp; (try with_reducible rfl)
          try simp only [Act.put, List.setIfInBounds_toArray, List.set_cons_zero, List.set_cons_succ]
          refine wpAnyE_takeL (i := 15) (v := ?_) rfl (by kernel_rfl) (fun _ _ _ h => h) (Or.inl ⟨by rfl, ?_⟩) hS ?_
          rotate_left
          · intro w hSw; (try dsimp only at hSw); have qZ := (hSw.blk kZ0 (by omega)).cell; have lZ := (hSw.blk kZ0 (by omega)).lt; have qD := (hSw.blk kD0 (by omega)).cell; have lD := (hSw.blk kD0 (by omega)).lt; have z0 := hSw.cellW p0 (by omega); have z1 := hSw.cellW p1 (by omega); clear hSw; go_simp; (try with_reducible rfl)
          try simp only [Act.put, List.setIfInBounds_toArray, List.set_cons_zero, List.set_cons_succ]
          refine wpAnyE_takeL (i := 16) (v := ?_) rfl (by kernel_rfl) (fun _ _ _ h => h) (Or.inl ⟨by rfl, ?_⟩) hS ?_
          rotate_left
          · intro w hSw; (try dsimp only at hSw); have qZ := (hSw.blk kZ0 (by omega)).cell; have lZ := (hSw.blk kZ0 (by omega)).lt; have qD := (hSw.blk kD0 (by omega)).cell; have lD := (hSw.blk kD0 (by omega)).lt; have z0 := hSw.cellW p0 (by omega); have z1 := hSw.cellW p1 (by omega); clear hSw; go_simp; (try with_reducible rfl)
          try simp only [Act.put, List.setIfInBounds_toArray, List.set_cons_zero, List.set_cons_succ]
          refine wpAnyE_takeL (i := 17) (v := ?_) rfl (by kernel_rfl) (fun _ _ _ h => h) (Or.inl ⟨by rfl, ?_⟩) hS ?_
          rotate_left
          · intro w hSw; (try dsimp only at hSw); have qZ := (hSw.blk kZ0 (by omega)).cell; have lZ := (hSw.blk kZ0 (by omega)).lt; have qD := (hSw.blk kD0 (by omega)).cell; have lD := (hSw.blk kD0 (by omega)).lt; have z0 := hSw.cellW p0 (by omega); have z1 := hSw.cellW p1 (by omega); clear hSw; go_simp; (try with_reducible rfl)
          try simp only [Act.put, List.setIfInBounds_toArray, List.set_cons_zero, List.set_cons_succ]
          refine wpAnyE_takeL (i := 18) (v := ?_) rfl (by kernel_rfl) (fun _ _ _ h => h) (Or.inl ⟨by rfl, ?_⟩) hS ?_
          rotate_left
          · intro w hSw; (try dsimp only at hSw); have qZ := (hSw.blk kZ0 (by omega)).cell; have lZ := (hSw.blk kZ0 (by omega)).lt; have qD := (hSw.blk kD0 (by omega)).cell; have lD := (hSw.blk kD0 (by omega)).lt; have z0 := hSw.cellW p0 (by omega); have z1 := hSw.cellW p1 (by omega); clear hSw; go_simp; (try with_reducible rfl)
          try simp only [Act.put, List.setIfInBounds_toArray, List.set_cons_zero, List.set_cons_succ]
          refine wpAnyE_oneL (k := 7) (by kernel_rfl) rfl (fun K hK => ?_)
          go_simp
          go_at_call 19
          refine (HNA0'.out wv.drew cB (HIv.out.by (Below.refl _ wv).drew)).mono ?_
          rintro e wa ⟨rfl, hba⟩
          have hbva : Below wv.heap.size wv wa := Below.trans (Below.refl _ wv).drew (hba.mono (by simp))
          have hSa : Within w11.heap.size hi2 wv wa := Within.ofBelow hbva
          refine hK.out _ _ (fun _ => hSa) ?_
          try simp only [Act.put, List.setIfInBounds_toArray, List.set_cons_zero, List.set_cons_succ]
          refine wpAnyE_oneL (k := 13) (by kernel_rfl) rfl (fun K hK => ?_)
          go_simp
          go_at_call 19
          refine (HNA1'.out _ (cell_by' hbva cB) (HIv.out.by hbva)).mono ?_
          rintro e wb ⟨rfl, hbb⟩
          have hbvb : Below wv.heap.size wv wb := hbva.trans (hbb.mono hbva.size)
          have hSb : Within w11.heap.size hi2 wv wb := Within.ofBelow hbvb
          refine hK.out _ _ (fun _ => hSb) ?_
          try simp only [Act.put, List.setIfInBounds_toArray, List.set_cons_zero, List.set_cons_succ]
          refine wpAnyE_takeL (i := 19) (v := ?_) rfl (by kernel_rfl) (fun _ _ _ h => h) (Or.inl ⟨by rfl, ?_⟩) hSb ?_
          rotate_left
          · intro w hSw; (try dsimp only at hSw); have qZ := (hSw.blk kZ0 (by omega)).cell; have lZ := (hSw.blk kZ0 (by omega)).lt; have qD := (hSw.blk kD0 (by omega)).cell; have lD := (hSw.blk kD0 (by omega)).lt; have z0 := hSw.cellW p0 (by omega); have z1 := hSw.cellW p1 (by omega); clear hSw; go_simp; (try with_reducible rfl)
          try simp only [Act.put, List.setIfInBounds_toArray, List.set_cons_zero, List.set_cons_succ]
          refine wpAnyE_oneL (k := 20) (by kernel_rfl) rfl (fun K hK => ?_)
          go_simp
          have hSc : Within w11.heap.size hi2 wv (wb.alloc (.cells #[.int .i64 cr, .int .i64 ct, .int .i64 wd, .int .i64 len] 57)) := hSb.alloc _
          refine hK.out _ _ (fun _ => hSc) ?_
          try simp only [Act.put, List.setIfInBounds_toArray, List.set_cons_zero, List.set_cons_succ]
          refine wpAnyE_oneL (k := 21) (by kernel_rfl) rfl (fun K hK => ?_)
          refine step_pushRes (by rfl) _ _ (by rfl) w11.heap.size hi2 (.slice au2 j cu2) ((dl.take j).map (resR dl p q)) (by rfl) (HBR0.out.by (hbvb.alloc hbvb.size _)) wb.heap.size ⟨cr, ct, wd, len⟩ (by rfl) (Blk.new _ rfl) hh2 (by rw [HML.out]; omega) ?_
          intro a' c' w9' hB9 hw9
          rw [HML.out] at hB9 ⊢
          have HB9 := Lib.hid hB9
          have hS9 : Within w11.heap.size hi2 wv w9' := hSc.on hw9
          have kZ9 := hS9.blk kZ0 (by omega)
          have cZ9 : w9'.cell? ⟨Z, 1, none⟩ = some (.slice au2 j cu2) := kZ9.cell 1
          have fZ9 : w9'.frozen? ⟨Z, 1, none⟩ = false := kZ9.free 1
          have lZ9 := kZ9.lt
          have HX9 := Lib.hid (HX0.out.thn (Exc.ofWithin (E := fun b => w11.heap.size ≤ b) hS9 (fun b h _ => h)) (fun b hb h => absurd h (by omega)))
          have hs9 := hS9.size
          have hs8 := HX0.out.size
          clear hB9 hw9
          refine hK.out _ _ (fun _ => hS9) ?_
          try simp only [Act.put, List.setIfInBounds_toArray, List.set_cons_zero, List.set_cons_succ]
          refine wpAnyE_oneL (k := 22) (by kernel_rfl) rfl (fun K hK => ?_)
          go_simp
          refine hK.out _ _ (fun _ => hS9) ?_
          try simp only [Act.put, List.setIfInBounds_toArray, List.set_cons_zero, List.set_cons_succ]
          refine wpAnyE_oneL (k := 23) (by kernel_rfl) rfl (fun K hK => ?_)
          go_simp
          refine hK.out _ _ (fun h => absurd rfl h) ?_
          refine wpAnyE_done (by kernel_rfl) ?_ _
          clear hS hSa hSb hSc hS9
          go_wp2_with fail
          refine ⟨⟨j + 1, w9'.heap.size, .slice a' (j + 1) c', by omega, by go_num, ?_, by omega, kZ9.set 1 _, Lib.hid (HX9.out.set _ _ _ (fun _ => rfl))⟩, by simp [intOf]; omega⟩
          rw [HTK.out, HRE.out]
          exact BldRes.past (Within.off _) HB9.out (by omega)
        · obtain rfl : j = k := by omega
          have hT : (dl.take j).map (resR dl p q) = dl.map (resR dl p q) := by rw [List.take_of_length_le (by rw [HLD.out]; exact Nat.le_refl _)]
          have hO := HBR.out.own
          rw [hT] at hO
          have HRS := Lib.hid hO.sl
          have HNW := Lib.hid (show NwV wr (.agg #[.int .i64 (cn : Int), .slice au2 j cu2]) (netR dl p q m) from ⟨.slice au2 j cu2, by rw [← HCN.out]; rfl, hO.sl⟩)
          have hn0 : fidx (fun y => decide (y = (p : Int))) NT = ((cnR dl p q p : Nat) : Int) := by
            have h := (HND.out (p : Int) (us_p dl p q)).1
            rw [HNTE.out, Int.toNat_natCast] at h
            exact h
          have hn1 : fidx (fun y => decide (y = (q : Int))) NT = ((cnR dl p q q : Nat) : Int) := by
            have h := (HND.out (q : Int) (us_q dl p q)).1
            rw [HNTE.out, Int.toNat_natCast] at h
            exact h
          have HNA0 := fun w hc h => nodeI_any NT (p : Int) B (some ⟨g, 0, none⟩) cn c w hc h
          have HNA1 := fun w hc h => nodeI_any NT (q : Int) B (some ⟨g, 0, none⟩) cn c w hc h
          rw [hn0] at HNA0
          rw [hn1] at HNA1
          have HIx := Lib.hid (IntSl.excN hX (by omega) HI11.out)
          have cBx : wr.cell? ⟨B, 0, none⟩ = some (.slice (some ⟨g, 0, none⟩) cn c) := kBx.cell 0
          have HCB := Lib.hid cBx
          have hcp := HCL.out p
          have hcq := HCL.out q
          have hres := HRES.out
          have hnd : (netR dl p q m).nodes = (cn : Int) := by
            show ((cnR dl p q m : Nat) : Int) = _
            rw [HCN.out]
          have HVB := HVW.out (.slice au2 j cu2)
          have HERo := HER.out ((cnR dl p q p : Nat) : Int) ((cnR dl p q q : Nat) : Int)
          rw [hnd] at HVB hres
          have j3 : ¬ (j : Int) < (j : Int) := by omega
          have qZ := kZx.cell
          have lZ := kZx.lt
          generalize cnR dl p q p = cp at *
          generalize cnR dl p q q = cq at *
          obtain ⟨VB, hVB⟩ : ∃ VB, nwB (cn : Int) (netR dl p q m).rs = VB := ⟨_, rfl⟩
          rw [hVB] at HVB hres
          have HVB' := Lib.hid HVB
          have HNA0' := Lib.hid HNA0
          have HNA1' := Lib.hid HNA1
          clear HVB hT hO hVB hnd hcp hcq hX hn0 hn1 HNA0 HNA1 cBx
          cases VB with
          | false =>
            simp only [Bool.false_eq_true, if_false, Prod.mk.injEq, Rt.mk.injEq] at hres
            obtain ⟨⟨rfl, rfl⟩, rfl⟩ := hres
            clear HERo
            go_wp2_with fail
            refine (HVB'.out _ (HRS.out.by (Below.refl _ _))).mono ?_
            rintro e w12 ⟨rfl, hb12⟩
            have kR12 := Blk.by hb12 kRx
            have qR := kR12.cell
            have fR := kR12.free
            have lR := kR12.lt
            have hW12 := below_on hb12 hWx
            clear qZ lZ
            go_wp2
            refine bodyPost_ret (v := .tuple #[.agg #[.int .i64 0, .int .i64 0], .int .i64 3]) (by simp [results, Tryz.results6, go_sem, *]) rfl ⟨rfl, blwT⟩
          | true =>
            simp only [if_true, Prod.mk.injEq] at hres
            obtain ⟨e1, e2⟩ := hres
            rw [e1, e2] at HERo
            dsimp only at HERo
            have HERo' := Lib.hid HERo
            clear HERo e1 e2
            go_wp2_with fail
            refine (HVB'.out _ (HRS.out.by (Below.refl _ _))).mono ?_
            rintro e w12 ⟨rfl, hb12⟩
            have kR9 := Blk.by hb12 kRx
            have kZ9 := Blk.by hb12 kZx
            have cB9 := cell_by' hb12 HCB.out
            have HI9 := Lib.hid (HIx.out.by hb12)
            have HNW9 := Lib.hid (HNW.out.by hb12)
            have hW9 := below_on hb12 hWx
            have hs9 := hb12.size
            have bR1 : w.heap.size + 1 < B := by omega
            clear qZ lZ hb12
            go_upto_region 26 with fail
            have hS : (fun w' : World => Exc (fun b => b = w.heap.size + 1) w12 w') { w12 with drawn := w12.drawn + 1 } := (Exc.refl _ w12).drew
            refine wp_region_any (by kernel_rfl) (wpAny_of_E (S := fun w' : World => Exc (fun b => b = w.heap.size + 1) w12 w') (l := 11) _ _ _ _ ?_)
            change wpAnyE _ _ _ _ _ _ _ _ _ w12.drew
            refine wpAnyE_takeL (i := 0) (v := ?_) rfl (by kernel_rfl) (fun _ _ _ h => h) (Or.inl ⟨by rfl, ?_⟩) hS ?_
            rotate_left
            · intro w hSw; (try dsimp only at hSw); have qZ := (hSw.blk kZ9 (by omega)).cell; have lZ := (hSw.blk kZ9 (by omega)).lt; clear hSw; go_simp; (try with_reducible rfl)
            try simp only [Act.put, List.setIfInBounds_toArray, List.set_cons_zero, List.set_cons_succ]
            refine wpAnyE_takeL (i := 1) (v := ?_) rfl (by kernel_rfl) (fun _ _ _ h => h) (Or.inl ⟨by rfl, ?_⟩) hS ?_
            rotate_left
            · intro w hSw; (try dsimp only at hSw); have qZ := (hSw.blk kZ9 (by omega)).cell; have lZ := (hSw.blk kZ9 (by omega)).lt; clear hSw; go_simp; (try with_reducible rfl)
            try simp only [Act.put, List.setIfInBounds_toArray, List.set_cons_zero, List.set_cons_succ]
            refine wpAnyE_takeL (i := 2) (v := ?_) rfl (by kernel_rfl) (fun _ _ _ h => h) (Or.inl ⟨by rfl, ?_⟩) hS ?_
            rotate_left
            · intro w hSw; (try dsimp only at hSw); have qZ := (hSw.blk kZ9 (by omega)).cell; have lZ := (hSw.blk kZ9 (by omega)).lt; clear hSw; go_simp; (try with_reducible rfl)
            try simp only [Act.put, List.setIfInBounds_toArray, List.set_cons_zero, List.set_cons_succ]
            refine wpAnyE_takeL (i := 4) (v := ?_) rfl (by kernel_rfl) (fun _ _ _ h => h) (Or.inl ⟨by rfl, ?_⟩) hS ?_
            rotate_left
            · intro w hSw; (try dsimp only at hSw); have qZ := (hSw.blk kZ9 (by omega)).cell; have lZ := (hSw.blk kZ9 (by omega)).lt; clear hSw; go_simp; (try with_reducible rfl)
            try simp only [Act.put, List.setIfInBounds_toArray, List.set_cons_zero, List.set_cons_succ]
            refine wpAnyE_takeL (i := 5) (v := ?_) rfl (by kernel_rfl) (fun _ _ _ h => h) (Or.inl ⟨by rfl, ?_⟩) hS ?_
            rotate_left
            · intro w hSw; (try dsimp only at hSw); have qZ := (hSw.blk kZ9 (by omega)).cell; have lZ := (hSw.blk kZ9 (by omega)).lt; clear hSw; go_simp; (try with_reducible rfl)
            try simp only [Act.put, List.setIfInBounds_toArray, List.set_cons_zero, List.set_cons_succ]
            refine wpAnyE_oneL (k := 3) (by kernel_rfl) rfl (fun K hK => ?_)
            go_simp
            go_at_call 19
            refine (HNA0'.out w12.drew cB9 (HI9.out.by (Below.refl _ w12).drew)).mono ?_
            rintro e wa ⟨rfl, hba⟩
            have hbva : Below w12.heap.size w12 wa := Below.trans (Below.refl _ w12).drew (hba.mono (by simp))
            have hSa : Exc (fun b => b = w.heap.size + 1) w12 wa := Exc.ofBelow hbva
            refine hK.out _ _ (fun _ => hSa) ?_
            try simp only [Act.put, List.setIfInBounds_toArray, List.set_cons_zero, List.set_cons_succ]
            refine wpAnyE_oneL (k := 6) (by kernel_rfl) rfl (fun K hK => ?_)
            go_simp
            go_at_call 19
            refine (HNA1'.out _ (cell_by' hbva cB9) (HI9.out.by hbva)).mono ?_
            rintro e wb ⟨rfl, hbb⟩
            have hbvb : Below w12.heap.size w12 wb := hbva.trans (hbb.mono hbva.size)
            have hSb : Exc (fun b => b = w.heap.size + 1) w12 wb := Exc.ofBelow hbvb
            refine hK.out _ _ (fun _ => hSb) ?_
            try simp only [Act.put, List.setIfInBounds_toArray, List.set_cons_zero, List.set_cons_succ]
            refine wpAnyE_oneL (k := 7) (by kernel_rfl) rfl (fun K hK => ?_)
            go_simp
            go_at_call 22
            refine (HERo'.out _ _ (HNW9.out.by hbvb)).mono ?_
            rintro e wc2 ⟨rfl, hbc⟩
            have hbvc : Below w12.heap.size w12 wc2 := hbvb.trans (hbc.mono hbvb.size)
            have hSc : Exc (fun b => b = w.heap.size + 1) w12 wc2 := Exc.ofBelow hbvc
            refine hK.out _ _ (fun _ => hSc) ?_
            try simp only [Act.put, List.setIfInBounds_toArray, List.set_cons_zero, List.set_cons_succ]
            refine wpAnyE_takeL (i := 8) (v := ?_) rfl (by kernel_rfl) (fun _ _ _ h => h) (Or.inl ⟨by rfl, ?_⟩) hSc ?_
            rotate_left
            · intro w hSw; (try dsimp only at hSw); have qZ := (hSw.blk kZ9 (by omega)).cell; have lZ := (hSw.blk kZ9 (by omega)).lt; clear hSw; go_simp; (try with_reducible rfl)
            try simp only [Act.put, List.setIfInBounds_toArray, List.set_cons_zero, List.set_cons_succ]
            refine wpAnyE_takeL (i := 9) (v := ?_) rfl (by kernel_rfl) (fun _ _ _ h => h) (Or.inl ⟨by rfl, ?_⟩) hSc ?_
            rotate_left
            · intro w hSw; (try dsimp only at hSw); have qZ := (hSw.blk kZ9 (by omega)).cell; have lZ := (hSw.blk kZ9 (by omega)).lt; clear hSw; go_simp; (try with_reducible rfl)
            try simp only [Act.put, List.setIfInBounds_toArray, List.set_cons_zero, List.set_cons_succ]
            refine wpAnyE_oneL (k := 10) (by kernel_rfl) rfl (fun K hK => ?_)
            have kRb := Blk.by hbvc kR9
            have cR := kRb.cell
            have fR := kRb.free
            have lR := kRb.lt
            go_simp
            have hSd : Exc (fun b => b = w.heap.size + 1) w12 ((wc2.setCell ⟨w.heap.size + 1, 0, none⟩ (.int .i64 N)).setCell ⟨w.heap.size + 1, 1, none⟩ (.int .i64 D)) := (hSc.set _ _ _ (fun _ => rfl)).set _ _ _ (fun _ => rfl)
            refine hK.out _ _ (fun _ => hSd) ?_
            try simp only [Act.put, List.setIfInBounds_toArray, List.set_cons_zero, List.set_cons_succ]
            refine wpAnyE_oneL (k := 11) (by kernel_rfl) rfl (fun K hK => ?_)
            go_simp
            refine hK.out _ _ (fun h => absurd rfl h) ?_
            refine wpAnyE_done (by kernel_rfl) ?_ _
            have kRc := kRb.set2 (x := .int .i64 N) (y := .int .i64 D)
            have hWb := below_on hbvc hW9
            have cRc := kRc.cell
            have lRc := kRc.lt
            clear hS hSa hSb hSc hSd cR fR
            go_wp2_with fail
            refine bodyPost_ret (v := .tuple #[.agg #[.int .i64 N, .int .i64 D], .int .i64 C]) (by simp [results, Tryz.results6, go_sem, *]) rfl ⟨rfl, blwT⟩
theorem implNr_any (x : Nl) (v : Value) (a b : ByteArray) (w : World) (h : NlV w v x) (hok : ∀ p ∈ x.ps, p.ok) (hnn : Fits x.nets) :
    Calls Tryz.prog 6 #[v, .string a, .string b] w fun e w' => e = .returned (.tuple #[.agg #[.int .i64 (nrS x a b).1.n, .int .i64 (nrS x a b).1.d], .int .i64 (nrS x a b).2]) ∧ Below w.heap.size w w' := by
  unfold nrS
  cases hv : nlB x with
  | false =>
    rw [if_neg (by simp)]
    exact implNr_inv x v a b w h hok hnn hv
  | true =>
    rw [if_pos rfl]
    by_cases hab : ptN x.ps a < 0 ∨ ptN x.ps b < 0
    · rw [if_pos hab]
      exact implNr_nf x v a b w h hok hnn hv hab
    · rw [if_neg hab]
      have h1 := ptN_bd hv (fun e => hab (.inl e))
      have h2 := ptN_bd hv (fun e => hab (.inr e))
      obtain ⟨p, hp⟩ : ∃ p : Nat, ptN x.ps a = p := ⟨(ptN x.ps a).toNat, by omega⟩
      obtain ⟨q, hq⟩ : ∃ q : Nat, ptN x.ps b = q := ⟨(ptN x.ps b).toNat, by omega⟩
      rw [hp] at h1
      rw [hq] at h2
      cases hR : x.ds.all (fun d => decide (d.kind = 2)) with
      | false =>
        rw [if_neg (by simp)]
        exact implNr_st x v a b w h hok hnn hv p q hp hq hR
      | true =>
        rw [if_pos rfl, hp, hq]
        exact implNr_good x v a b w h hok hnn hv p q hp hq h1.2 h2.2 (fun d hd => of_decide_eq_true (List.all_eq_true.1 hR d hd)) _ _ _ rfl
end Go.Proofs.YtacbdmngcdhgoaaGreat
namespace Go.Proofs.YtacbdmngcdhgoaaGreat.fnReduceResistance
open Go.RowKit Go.Proofs.YtacbdmngcdhgoaaGreat
set_option linter.unusedVariables false
set_option linter.unusedSimpArgs false
theorem nr_zero {x : Nl} {a b : ByteArray} (h : ¬ (nrS x a b).2 = 0) : (nrS x a b).1 = ⟨0, 0⟩ := by
  unfold nrS at h ⊢
  by_cases h1 : nlB x = true
  · rw [if_pos h1] at h ⊢
    by_cases h2 : ptN x.ps a < 0 ∨ ptN x.ps b < 0
    · rw [if_pos h2]
    · rw [if_neg h2] at h ⊢
      by_cases h3 : x.ds.all (fun d => decide (d.kind = 2)) = true
      · rw [if_pos h3] at h ⊢
        unfold nrQ at h ⊢
        by_cases h4 : nwB (netR (rmS x).ds (ptN x.ps a) (ptN x.ps b) x.nets.toNat).nodes (netR (rmS x).ds (ptN x.ps a) (ptN x.ps b) x.nets.toNat).rs = true
        · rw [if_pos h4] at h ⊢
          exact er_no h
        · rw [if_neg h4]
      · rw [if_neg h3]
  · rw [if_neg h1]
theorem rr_all {x : Nl} {a b : ByteArray} (h1 : (nrS x a b).2 = 0) (h2 : rdC x = 0) : (∀ p ∈ (rdS x).ps, p.ok) ∧ Fits (rdS x).nets ∧ ((nrS (rdS x) a b).2 = 3 ∨ ((nrS (rdS x) a b).2 = 0 ∧ (nrS (rdS x) a b).1 = (nrS x a b).1)) := by
  have hv := rdS_valid (nr_parts h1).1 h2
  obtain ⟨⟨n0, n1⟩, _, _, _, hpt⟩ := nlB_facts hv
  refine ⟨fun p hp => ?_, ⟨by omega, by omega⟩, rr_law h1 h2⟩
  obtain ⟨i, hi, e⟩ := List.getElem_of_mem hp
  have h1 := hpt i hi
  unfold ptOk at h1
  rw [List.getElem?_eq_getElem hi, e] at h1
  simp only [Bool.and_eq_true] at h1
  have h2 := inB_iff.1 h1.2.1
  have h3 := h1.1
  unfold nameB at h3
  rw [Bool.and_eq_true, decide_eq_true_eq] at h3
  have h4 := h3.2.2
  exact ⟨by omega, ⟨by omega, by omega⟩⟩
set_option maxRecDepth 100000 in
set_option maxHeartbeats 8000000 in
theorem walk (v0 : Value) (w : World) (n : Nat) (hB : Bytes w v0 n) :
    Calls Tryz.prog 3 #[v0] w fun e w' => e = .returned (.bool true) ∧ Below w.heap.size w w' := by
  have HB := Lib.hid hB
  have HBG := Lib.hid (fun w h => big_any v0 n w h)
  by_cases hn : 4096 < n
  · rw [decide_eq_true hn] at HBG
    clear hB hn
    go_enter Tryz.func3, Tryz.ntmps3
    go_wp2_with fail
    refine (HBG.out _ HB.out).mono ?_
    rintro e w1 ⟨rfl, rfl⟩
    go_wp2
    go_ret
    exact ⟨rfl, Below.refl _ _⟩
  · rw [decide_eq_false hn] at HBG
    have HDR := Lib.hid (fun w h => drawNr_any v0 n w h (by omega))
    clear hB hn
    go_enter Tryz.func3, Tryz.ntmps3
    go_wp2_with fail
    refine (HBG.out _ HB.out).mono ?_
    rintro e w1 ⟨rfl, rfl⟩
    go_wp2_with fail
    refine (HDR.out _ HB.out).mono ?_
    rintro e w1 ⟨v, x, a, b, rfl, HNV, HS, hb1⟩
    have HIM := Lib.hid (fun v w h => implNr_any x v a b w h HS.out.2.2.2.2 HS.out.fits)
    have HRD := Lib.hid (fun v w h => implRd_any x v w h HS.out.2.2.2.2 HS.out.fits)
    have HSP := Lib.hid (fun v w h => specNr_any x v a b w h HS.out.2.2.2.2 HS.out.fits)
    have HZ := Lib.hid (@nr_zero x a b)
    have HL := Lib.hid (@rr_all x a b)
    obtain ⟨⟨⟨K, P⟩, C⟩, hE⟩ : ∃ E, nrS x a b = E := ⟨_, rfl⟩
    obtain ⟨D, hD⟩ : ∃ D, rdC x = D := ⟨_, rfl⟩
    obtain ⟨y, hy⟩ : ∃ y, rdS x = y := ⟨_, rfl⟩
    rw [hE] at HIM HSP HZ HL
    rw [hD] at HRD HL
    rw [hy] at HRD HL
    dsimp only at HIM HSP HZ HL
    clear hE hD hy
    have eC : (C != C) = false := by simp
    have eK : (K != K) = false := by simp
    have eP : (P != P) = false := by simp
    obtain ⟨a1, c1, a2, c2, rfl⟩ := HNV.out.sized
    have hbA : Below w1.heap.size w1 (w1.alloc (.cells #[.int .i64 x.nets, .slice a1 x.ds.length c1, .slice a2 x.ps.length c2] 27)) := (Below.refl _ w1).alloc (Nat.le_refl _) _
    have k3 : Blk (w1.alloc (.cells #[.int .i64 x.nets, .slice a1 x.ds.length c1, .slice a2 x.ps.length c2] 27)) w1.heap.size #[.int .i64 x.nets, .slice a1 x.ds.length c1, .slice a2 x.ps.length c2] 27 := Blk.new _ rfl
    have HN := Lib.hid (HNV.out.by hbA)
    have hW := below_on hbA hb1
    clear HNV hbA hb1
    go_upto_region 4 with fail
    generalize w1.alloc (.cells #[.int .i64 x.nets, .slice a1 x.ds.length c1, .slice a2 x.ps.length c2] 27) = w2 at *
    obtain ⟨T3, hT⟩ : ∃ T, w1.heap.size = T := ⟨_, rfl⟩
    (try rw [hT])
    rw [hT] at k3
    clear hT
    have c3 := k3.cell
    have l3 := k3.lt
    go_wp2_with fail
    refine (HIM.out _ _ HN.out).mono ?_
    rintro e w3 ⟨rfl, hb⟩
    replace k3 := Blk.by hb k3
    replace HN := Lib.hid (HN.out.by hb)
    replace hW := below_on hb hW
    have kR : Blk (w3.alloc (.cells #[.int .i64 K, .int .i64 P] 31)) w3.heap.size #[.int .i64 K, .int .i64 P] 31 := Blk.new _ rfl
    have hal : Below w3.heap.size w3 (w3.alloc (.cells #[.int .i64 K, .int .i64 P] 31)) := (Below.refl _ w3).alloc (Nat.le_refl _) _
    replace k3 := Blk.by hal k3
    replace HN := Lib.hid (HN.out.by hal)
    replace hW := below_on hal hW
    clear hb hal c3 l3
    go_upto_region 5 with fail
    generalize w3.alloc (.cells #[.int .i64 K, .int .i64 P] 31) = w4 at *
    obtain ⟨TR, hT⟩ : ∃ T, w3.heap.size = T := ⟨_, rfl⟩
    (try rw [hT])
    rw [hT] at kR
    clear hT
    have c3 := k3.cell
    have l3 := k3.lt
    go_wp2_with fail
    refine (HRD.out _ _ HN.out).mono ?_
    rintro e w5 ⟨v6, rfl, hO, hb⟩
    have HY := Lib.hid hO.nl
    obtain ⟨b1, d1, b2, d2, rfl⟩ := hO.nl.sized
    replace k3 := Blk.by hb k3
    replace kR := Blk.by hb kR
    replace HN := Lib.hid (HN.out.by hb)
    replace hW := below_on hb hW
    have kY : Blk (w5.alloc (.cells #[.int .i64 y.nets, .slice b1 y.ds.length d1, .slice b2 y.ps.length d2] 27)) w5.heap.size #[.int .i64 y.nets, .slice b1 y.ds.length d1, .slice b2 y.ps.length d2] 27 := Blk.new _ rfl
    have hal : Below w5.heap.size w5 (w5.alloc (.cells #[.int .i64 y.nets, .slice b1 y.ds.length d1, .slice b2 y.ps.length d2] 27)) := (Below.refl _ w5).alloc (Nat.le_refl _) _
    replace k3 := Blk.by hal k3
    replace kR := Blk.by hal kR
    replace HN := Lib.hid (HN.out.by hal)
    replace HY := Lib.hid (HY.out.by hal)
    replace hW := below_on hal hW
    clear hb hal c3 l3 hO
    go_upto_region 6 with fail
    generalize w5.alloc (.cells #[.int .i64 y.nets, .slice b1 y.ds.length d1, .slice b2 y.ps.length d2] 27) = w6 at *
    obtain ⟨TY, hT⟩ : ∃ T, w5.heap.size = T := ⟨_, rfl⟩
    (try rw [hT])
    rw [hT] at kY
    clear hT
    have c3 := k3.cell
    have l3 := k3.lt
    go_wp2_with fail
    refine (HSP.out _ _ HN.out).mono ?_
    rintro e w7 ⟨rfl, hb⟩
    replace kY := Blk.by hb kY
    replace kR := Blk.by hb kR
    replace HY := Lib.hid (HY.out.by hb)
    replace hW := below_on hb hW
    have kS : Blk (w7.alloc (.cells #[.int .i64 K, .int .i64 P] 31)) w7.heap.size #[.int .i64 K, .int .i64 P] 31 := Blk.new _ rfl
    have hal : Below w7.heap.size w7 (w7.alloc (.cells #[.int .i64 K, .int .i64 P] 31)) := (Below.refl _ w7).alloc (Nat.le_refl _) _
    replace kR := Blk.by hal kR
    replace kY := Blk.by hal kY
    replace HY := Lib.hid (HY.out.by hal)
    replace hW := below_on hal hW
    clear hb hal c3 l3 k3 HN
    go_upto_region 7 with fail
    generalize w7.alloc (.cells #[.int .i64 K, .int .i64 P] 31) = w8 at *
    obtain ⟨TS, hT⟩ : ∃ T, w7.heap.size = T := ⟨_, rfl⟩
    (try rw [hT])
    rw [hT] at kS
    clear hT
    have cR := kR.cell
    have lR := kR.lt
    have cS := kS.cell
    have lS := kS.lt
    go_upto_region 9 with fail
    clear cS lS kS
    by_cases hC : C = 0
    · by_cases hD : D = 0
      · subst hC hD
        obtain ⟨hok, hft, hl⟩ := HL.out rfl rfl
        have HIY := Lib.hid (fun v w h => implNr_any y v a b w h hok hft)
        obtain ⟨⟨⟨K2, P2⟩, C2⟩, hE⟩ : ∃ E, nrS y a b = E := ⟨_, rfl⟩
        rw [hE] at HIY hl
        dsimp only at HIY hl
        clear hE hok hft HL HZ HIM HRD HSP
        have cY := kY.cell
        have lY := kY.lt
        go_wp2_with fail
        refine (HIY.out _ _ HY.out).mono ?_
        rintro e w9 ⟨rfl, hb⟩
        replace kR := Blk.by hb kR
        replace hW := below_on hb hW
        have kQ : Blk (w9.alloc (.cells #[.int .i64 K2, .int .i64 P2] 31)) w9.heap.size #[.int .i64 K2, .int .i64 P2] 31 := Blk.new _ rfl
        have hal : Below w9.heap.size w9 (w9.alloc (.cells #[.int .i64 K2, .int .i64 P2] 31)) := (Below.refl _ w9).alloc (Nat.le_refl _) _
        replace kR := Blk.by hal kR
        replace hW := below_on hal hW
        clear hb hal cY lY cR lR
        go_upto_region 12 with fail
        generalize w9.alloc (.cells #[.int .i64 K2, .int .i64 P2] 31) = w10 at *
        obtain ⟨TQ, hT⟩ : ∃ T, w9.heap.size = T := ⟨_, rfl⟩
        (try rw [hT])
        rw [hT] at kQ
        clear hT
        have cR := kR.cell
        have lR := kR.lt
        have cQ := kQ.cell
        have lQ := kQ.lt
        rcases hl with rfl | ⟨rfl, he⟩
        · go_wp2
          go_ret
          exact ⟨rfl, hW⟩
        · obtain ⟨rfl, rfl⟩ : K2 = K ∧ P2 = P := by simpa using he
          clear he
          go_wp2
          go_ret
          exact ⟨rfl, hW⟩
      · have hDb : (D != 0) = true := by simpa using hD
        subst hC
        go_wp2
        go_ret
        exact ⟨rfl, hW⟩
    · have hCb : (C != 0) = true := by simpa using hC
      have hCe : (C == 0) = false := by simpa using hC
      have hz := HZ.out hC
      obtain ⟨rfl, rfl⟩ : K = 0 ∧ P = 0 := by simpa using hz
      clear hz hC
      go_wp2
      go_ret
      exact ⟨rfl, hW⟩
end Go.Proofs.YtacbdmngcdhgoaaGreat.fnReduceResistance
