/- The refinement of a netlist: the plain part. -/
import Derived.Test.YtpaiiaajbojmnaaGreatRefs
import Derived.Test.YtpaiiaajbojmnaaGreatBldL
import Derived.Test.YtpaiiaajbojmnaaGreatDifs
import Derived.Test.YtpaiiaajbojmnaaGreatInis
import Derived.Test.YtpaiiaajbojmnaaGreatPairC
import Derived.Test.YtpaiiaajbojmnaaGreatSpecNl
import Derived.Test.YtpaiiaajbojmnaaGreatImplNl
import Derived.Test.YtpaiiaajbojmnaaGreatValid0
import Derived.Deep.RegionHeld3
namespace Go.Proofs.YtpaiiaajbojmnaaGreat
open Go.RowKit
set_option linter.unusedVariables false
set_option linter.unusedSimpArgs false

theorem rankS_lt {ls : List (List Int)} {z : Int} (h : z ∈ rankS ls) : 0 ≤ z ∧ z < (ls.length : Int) := by
  obtain ⟨x, hx, rfl⟩ := List.mem_map.1 h
  have hf : x ∈ fsts ls := mem_fsts.2 hx
  have hfl : (fsts ls).length ≤ ls.length := by
    unfold fsts
    rw [List.length_map]
    have := List.length_filter_le (firstAt ls) (List.range ls.length)
    simpa using this
  have hle := List.countP_le_length (p := fun y => decide (lcmp y x < 0)) (l := fsts ls)
  have hne : (fsts ls).countP (fun y => decide (lcmp y x < 0)) ≠ (fsts ls).length := fun e => by
    have := (List.countP_eq_length.1 e) x hf
    simp [lcmp_self] at this
  rw [rankOf_fsts]
  omega
theorem colsB_rank {ls : List (List Int)} {n : Int} (h1 : (ls.length : Int) = n) (h2 : ls.length ≤ 24) : colsB (rankS ls) n = true := by
  simp only [colsB, Bool.and_eq_true, decide_eq_true_eq, List.all_eq_true, length_rankS]
  refine ⟨fun z hz => ?_, h1⟩
  have := rankS_lt hz
  exact inB_iff.2 (by omega)
theorem coB_ref {x : Nl} {c : List Int × List Int} (h : coB x c = true) : coB x (refS x c) = true := by
  obtain ⟨f1, f2, f3, f4⟩ := coB_facts h
  obtain ⟨g1, g2, g3, g4⟩ := coB_nets h
  have hb : nlB x = true := by
    simp only [coB, Bool.and_eq_true] at h
    exact h.1
  simp only [coB, Bool.and_eq_true]
  refine ⟨hb, colsB_rank (by simp; omega) (by simp; omega), colsB_rank (by simp [dsgLs]) (by simp [dsgLs]; omega)⟩
theorem coB_ini {x : Nl} (hb : nlB x = true) : coB x (iniS x) = true := by
  obtain ⟨⟨h0, h1⟩, hd, _⟩ := nlB_facts hb
  simp only [coB, Bool.and_eq_true]
  refine ⟨hb, colsB_rank (by rw [length_netL]; omega) (by rw [length_netL]; omega), colsB_rank (by rw [length_devL]) (by rw [length_devL]; omega)⟩
theorem coB_cnt {x : Nl} {c : List Int × List Int} (h : coB x c = true) : 0 ≤ cntC c ∧ cntC c ≤ 48 := by
  obtain ⟨f1, f2, f3, f4⟩ := coB_facts h
  have h1 := difI_le c.1
  have h2 := difI_le c.2
  unfold cntC
  omega
/-- The last coloring and the number of steps. -/
def refN (x : Nl) : Nat → List Int × List Int → Int → (List Int × List Int) × Int
  | 0, c, s => (c, s)
  | f + 1, c, s => if cntC (refS x c) ≤ cntC c then (c, s) else refN x f (refS x c) (s + 1)
theorem refN_stop {x : Nl} {f : Nat} {c : List Int × List Int} {s : Int} (h : cntC (refS x c) ≤ cntC c) : refN x (f + 1) c s = (c, s) := by
  show (if _ then _ else _) = _
  rw [if_pos h]
theorem refN_go {x : Nl} {f : Nat} {c : List Int × List Int} {s : Int} (h : ¬ cntC (refS x c) ≤ cntC c) : refN x (f + 1) c s = refN x f (refS x c) (s + 1) := by
  show (if _ then _ else _) = _
  rw [if_neg h]
theorem coB_refN {x : Nl} : ∀ (f : Nat) (c : List Int × List Int) (s : Int), coB x c = true → coB x (refN x f c s).1 = true
  | 0, c, s, h => h
  | f + 1, c, s, h => by
    by_cases e : cntC (refS x c) ≤ cntC c
    · rw [refN_stop e]; exact h
    · rw [refN_go e]; exact coB_refN f _ _ (coB_ref h)
/-- What RefineNetlist answers. -/
def refNet (x : Nl) : (List Int × List Int) × Int := if nlB x = true then refN x 64 (iniS x) 0 else (([], []), -1)
theorem refNet_bounds (x : Nl) : (refNet x).1.1.length ≤ 1048576 ∧ (refNet x).1.2.length ≤ 1048576 := by
  unfold refNet
  split
  · rename_i hb
    obtain ⟨f1, f2, f3, f4⟩ := coB_facts (coB_refN 64 (iniS x) 0 (coB_ini hb))
    omega
  · simp
end Go.Proofs.YtpaiiaajbojmnaaGreat

/- RefineNetlist: the program's and the reference's. -/
namespace Go.Proofs.YtpaiiaajbojmnaaGreat
open Go.RowKit
set_option linter.unusedVariables false
set_option linter.unusedSimpArgs false

theorem nl_netsR {x : Nl} (h : nlB x = true) : ∀ p ∈ x.ps, 0 ≤ p.net ∧ p.net < x.nets := by
  intro p hp
  obtain ⟨i, hi, e⟩ := List.mem_iff_getElem.1 hp
  have := (nlB_facts h).2.2.2.2 i hi
  have hg : x.ps[i]? = some p := by rw [List.getElem?_eq_getElem hi, e]
  simp only [ptOk, hg, Bool.and_eq_true] at this
  have h2 := inB_iff.1 this.2.1
  omega


set_option maxRecDepth 100000 in
set_option maxHeartbeats 4000000 in
theorem refined_any (x : Nl) (v : Value) (w : World) (h : NlV w v x) (hb0 : nlB x = true) :
    Calls Tryz.prog 17 #[v] w fun e w' => ∃ v', e = .returned (.tuple #[v', .int .i64 (refN x 64 (iniS x) 0).2]) ∧ OwnPr w' w.heap.size w'.heap.size v' (refN x 64 (iniS x) 0).1 ∧ Below w.heap.size w w' := by
  have HN := Lib.hid h
  obtain ⟨⟨hn0, hn1⟩, hd24, hp8, hdv, _⟩ := nlB_facts hb0
  have hnet := nl_netsR hb0
  obtain ⟨m, hm⟩ : ∃ m : Nat, x.nets = m := ⟨x.nets.toNat, by omega⟩
  have HII := Lib.hid (fun v w h => implIni_any x v m w h hm (by omega) hd24 hp8 hnet)
  have HCI := Lib.hid (coB_ini hb0)
  obtain ⟨RES, hRES⟩ : ∃ RES, refN x 64 (iniS x) 0 = RES := ⟨_, rfl⟩
  rw [hRES]
  have HRN := Lib.hid (show refN x (64 - 0) (iniS x) ((0 : Nat) : Int) = RES from hRES)
  obtain ⟨a, ca, a', ca', rfl⟩ := h.sized
  clear h hb0 hn0 hn1 hd24 hp8 hdv hnet hm hRES
  go_enter Tryz.func17, Tryz.ntmps17
  go_wp2_with fail
  have kA0 : Blk ((w.alloc (.cells #[.int .i64 x.nets, .slice a x.ds.length ca, .slice a' x.ps.length ca'] 27)).alloc (.cells #[.slice none 0 0, .slice none 0 0] 30)) w.heap.size #[.int .i64 x.nets, .slice a x.ds.length ca, .slice a' x.ps.length ca'] 27 := (by ((repeat (first | (with_reducible assumption) | (with_reducible refine Blk.drewN ?_ _) | (with_reducible refine Blk.drew ?_) | ((with_reducible refine Blk.new _ ?_); focus (first | omega | (simp; done) | (simp; omega))) | (with_reducible refine Blk.past ?_ _) | ((with_reducible refine Blk.apart ?_ _ _ _ ?_); rotate_left; focus (first | omega | (simp; done) | (simp; omega))) | (with_reducible refine Blk.by (by assumption) ?_))); done))
  have kR0 : Blk ((w.alloc (.cells #[.int .i64 x.nets, .slice a x.ds.length ca, .slice a' x.ps.length ca'] 27)).alloc (.cells #[.slice none 0 0, .slice none 0 0] 30)) (w.heap.size + 1) #[.slice none 0 0, .slice none 0 0] 30 := Blk.new _ (by simp)
  refine (HII.out _ _ (HN.out.by (by ((repeat (first | (with_reducible exact Below.refl _ _) | (with_reducible refine below_drewN ?_ _) | (with_reducible refine Below.drew ?_) | (with_reducible refine below_al ?_ _) | (with_reducible refine below_on (by assumption) ?_) | ((with_reducible refine Below.setCell ?_ ?_ _); rotate_left; focus (first | omega | (simp; done) | (simp; omega))) | (with_reducible assumption))); done)))).mono ?_
  rintro e w1 ⟨v1, rfl, hO1, hb1⟩
  have HO1 := Lib.hid hO1
  obtain ⟨a1, c1, a2, c2, rfl⟩ := hO1.co.sized
  have hs1 := hb1.size
  simp only [World.size_alloc] at hs1 HO1
  have kA := Blk.by hb1 kA0
  have kR := Blk.by hb1 kR0
  have hb := below_on hb1 (below_two w (.cells #[.int .i64 x.nets, .slice a x.ds.length ca, .slice a' x.ps.length ca'] 27) (.cells #[.slice none 0 0, .slice none 0 0] 30))
  have qA := kA.cell
  clear hO1 hb1 kA0 kR0
  go_wp2
  obtain ⟨K, hK⟩ : ∃ K, w1.heap.size = K := ⟨_, rfl⟩
  obtain ⟨wK, hwK⟩ : ∃ z, z = w1.alloc (.cells #[.slice a1 (iniS x).1.length c1, .slice a2 (iniS x).2.length c2] 30) := ⟨_, rfl⟩
  have hal : Below w1.heap.size w1 wK := by rw [hwK]; exact (Below.refl _ w1).alloc (Nat.le_refl _) _
  have kK : Blk wK K #[.slice a1 (iniS x).1.length c1, .slice a2 (iniS x).2.length c2] 30 := by rw [hwK]; exact Blk.new _ hK.symm
  have hsK : wK.heap.size = K + 1 := by rw [hwK]; simp [hK]
  have kAK := Blk.by hal kA
  have kRK := Blk.by hal kR
  have hbK := below_on hal hb
  have HOK := Lib.hid (HO1.out.by hal)
  rw [hK] at HOK
  have lR0 := kR.lt
  have hKw : w.heap.size + 1 < K := by omega
  rw [← hwK]
  (try rw [hK])
  clear hwK hal kA kR hb HO1
  go_loopw [5] (fun s wr => ∃ (c : List Int × List Int) (k lo hi : Nat) (e : Option Addr) (ce : Nat) (e' : Option Addr) (ce' : Nat), s = .int .i64 (k : Int) ∧ k ≤ 63 ∧ Hid (coB x c = true ∧ refN x (64 - k) c (k : Int) = RES ∧ (49 : Int) ≤ ((64 - k : Nat) : Int) + cntC c) ∧ Blk wr K #[.slice e c.1.length ce, .slice e' c.2.length ce'] 30 ∧ Hid (OwnPr wr lo hi (.agg #[.slice e c.1.length ce, .slice e' c.2.length ce']) c) ∧ (w.heap.size + 1 < lo ∧ lo ≤ hi ∧ hi ≤ wr.heap.size ∧ (K < lo ∨ hi ≤ K)) ∧ Blk wr w.heap.size #[.int .i64 x.nets, .slice a x.ds.length ca, .slice a' x.ps.length ca'] 27 ∧ Blk wr (w.heap.size + 1) #[.slice none 0 0, .slice none 0 0] 30 ∧ Below w.heap.size w wr) (fun s _ => 64 - (intOf s).toNat)
  case atStart => exact ⟨iniS x, 0, w.heap.size + 1 + 1, K, a1, c1, a2, c2, rfl, by omega, Lib.hid ⟨HCI.out, HRN.out, by have := (coB_cnt HCI.out).1; omega⟩, kK, HOK, ⟨by omega, by omega, by omega, by omega⟩, kAK, kRK, hbK⟩
  case round =>
    clear kK kAK kRK hbK HOK hsK
    obtain ⟨c, k, lo, hi, e, ce, e', ce', rfl, hk, HF, kK, HO, ⟨hl1, hl2, hl3, hl4⟩, kA, kR, hb⟩ := hrel
    obtain ⟨hcb, hrn, hms⟩ := HF.out
    obtain ⟨f1, f2, f3, f4⟩ := coB_facts hcb
    obtain ⟨g1, g2, g3, g4⟩ := coB_nets hcb
    have hbd := refS_bounds hcb
    have hcr := coB_ref hcb
    have hcn := coB_cnt hcb
    have hcm := coB_cnt hcr
    have HI := Lib.hid (fun v u w h h' => implRefine_any x c c.1.length v u w h h' (by omega) f2 f1 rfl f3 g3 f4 (occs_ok hcb))
    have HCC := Lib.hid (fun u w h => colorCount_any c u w h (by omega) (by omega))
    have HCR := Lib.hid (fun u w h => colorCount_any (refS x c) u w h (by omega) (by omega))
    have HCR2 := Lib.hid hcr
    have qA := kA.cell
    have qK := kK.cell
    have HF1 := Lib.hid (show 64 - (k + 1) = 63 - k by omega)
    have hfs : 64 - k = (63 - k) + 1 := by omega
    rw [hfs] at hrn
    by_cases hle : cntC (refS x c) ≤ cntC c
    · have hd : decide (cntC (refS x c) ≤ cntC c) = true := decide_eq_true hle
      have HRES := Lib.hid (show (c, (k : Int)) = RES by rw [← hrn, refN_stop hle])
      clear hcb hrn f1 f2 f3 f4 g1 g2 g3 g4 hbd hcr HF hfs
      generalize refS x c = RR at *
      generalize cntC RR = K1 at *
      generalize cntC c = K2 at *
      go_wp2_with fail
      refine (HI.out _ _ _ (HN.out.by hb) HO.out.co).mono ?_
      rintro e2 w2 ⟨v2, rfl, hO2, hb2⟩
      have HO2 := Lib.hid hO2
      obtain ⟨b1, d1, b2, d2, rfl⟩ := hO2.co.sized
      have hs2 := hb2.size
      have lK := kK.lt
      have kA2 := Blk.by hb2 kA
      have kK2 := Blk.by hb2 kK
      have kR2 := Blk.by hb2 kR
      have hb2w := below_on hb2 hb
      have HC2 := Lib.hid (HO.out.by hb2)
      have qA2 := kA2.cell
      have qK2 := kK2.cell
      clear hO2 qA qK hb2 kA kK kR HO hb
      go_wp2_with fail
      obtain ⟨D, hD⟩ : ∃ D, w2.heap.size = D := ⟨_, rfl⟩
      obtain ⟨w3, hw3⟩ : ∃ z, z = w2.alloc (.cells #[.slice b1 RR.1.length d1, .slice b2 RR.2.length d2] 30) := ⟨_, rfl⟩
      have hal : Below w2.heap.size w2 w3 := by rw [hw3]; exact (Below.refl _ w2).alloc (Nat.le_refl _) _
      have kD3 : Blk w3 D #[.slice b1 RR.1.length d1, .slice b2 RR.2.length d2] 30 := by rw [hw3]; exact Blk.new _ hD.symm
      have hs3 : w3.heap.size = D + 1 := by rw [hw3]; simp [hD]
      have kA3 := Blk.by hal kA2
      have kK3 := Blk.by hal kK2
      have kR3 := Blk.by hal kR2
      have hb3w := below_on hal hb2w
      have HC3 := Lib.hid ((HC2.out.by hal).co)
      have HR3 := Lib.hid ((HO2.out.by hal).co)
      have HOC := Lib.hid (HC2.out.by hal)
      have HON := Lib.hid (HO2.out.by hal)
      rw [← hw3]
      (try rw [hD])
      (try rw [hD] at HON)
      clear hw3 hal kA2 kK2 kR2 qA2 qK2 hb2w HC2 HO2
      have hsz := hs3
      go_region_held3 ((fun w' => (Blk w' (D) #[.slice b1 RR.1.length d1, .slice b2 RR.2.length d2] 30 ∧ ∀ o, w'.cell? ⟨D, o, none⟩ = (#[.slice b1 RR.1.length d1, .slice b2 RR.2.length d2] : Array Value)[o]?) ∧ (Blk w' (K) #[.slice e c.1.length ce, .slice e' c.2.length ce'] 30 ∧ ∀ o, w'.cell? ⟨K, o, none⟩ = (#[.slice e c.1.length ce, .slice e' c.2.length ce'] : Array Value)[o]?) ∧ Below w.heap.size w w')) (((try (obtain ⟨⟨hS0, _⟩, ⟨hS1, _⟩, hSB⟩ := hHeld)); refine ⟨Blk.both ?_, Blk.both ?_, ?_⟩ <;> first | ((repeat (first | (with_reducible assumption) | (with_reducible refine Blk.drewN ?_ _) | (with_reducible refine Blk.drew ?_) | ((with_reducible refine Blk.new _ ?_); focus (first | omega | (simp; done) | (simp; omega))) | (with_reducible refine Blk.past ?_ _) | ((with_reducible refine Blk.apart ?_ _ _ _ ?_); rotate_left; focus (first | omega | (simp; done) | (simp; omega))) | (with_reducible refine Blk.by (by assumption) ?_))); done) | ((repeat (first | (with_reducible exact Below.refl _ _) | (with_reducible refine below_drewN ?_ _) | (with_reducible refine Below.drew ?_) | (with_reducible refine below_al ?_ _) | (with_reducible refine below_on (by assumption) ?_) | ((with_reducible refine Below.setCell ?_ ?_ _); rotate_left; focus (first | omega | (simp; done) | (simp; omega))) | (with_reducible assumption))); done))) (first | (go_at_call_of 22 (Value.agg #[Value.slice e c.1.length ce, Value.slice e' c.2.length ce']); refine (HCC.out _ _ (HC3.out.by (by ((repeat (first | (with_reducible exact Below.refl _ _) | (with_reducible refine below_drewN ?_ _) | (with_reducible refine Below.drew ?_) | (with_reducible refine below_al ?_ _) | (with_reducible refine below_on (by assumption) ?_) | ((with_reducible refine Below.setCell ?_ ?_ _); rotate_left; focus (first | omega | (simp; done) | (simp; omega))) | (with_reducible assumption))); done)))).mono ?_; rintro e5 w5 ⟨rfl, hb5⟩) | (go_at_call 22; refine (HCR.out _ _ (HR3.out.by (by ((repeat (first | (with_reducible exact Below.refl _ _) | (with_reducible refine below_drewN ?_ _) | (with_reducible refine Below.drew ?_) | (with_reducible refine below_al ?_ _) | (with_reducible refine below_on (by assumption) ?_) | ((with_reducible refine Below.setCell ?_ ?_ _); rotate_left; focus (first | omega | (simp; done) | (simp; omega))) | (with_reducible assumption))); done)))).mono ?_; rintro e4 w4 ⟨rfl, hb4⟩))
      all_goals
        have kR5 : Blk w5 (w.heap.size + 1) #[.slice none 0 0, .slice none 0 0] 30 := (by ((repeat (first | (with_reducible assumption) | (with_reducible refine Blk.drewN ?_ _) | (with_reducible refine Blk.drew ?_) | ((with_reducible refine Blk.new _ ?_); focus (first | omega | (simp; done) | (simp; omega))) | (with_reducible refine Blk.past ?_ _) | ((with_reducible refine Blk.apart ?_ _ _ _ ?_); rotate_left; focus (first | omega | (simp; done) | (simp; omega))) | (with_reducible refine Blk.by (by assumption) ?_))); done))
        have kK5 : Blk w5 K #[.slice e c.1.length ce, .slice e' c.2.length ce'] 30 := (by ((repeat (first | (with_reducible assumption) | (with_reducible refine Blk.drewN ?_ _) | (with_reducible refine Blk.drew ?_) | ((with_reducible refine Blk.new _ ?_); focus (first | omega | (simp; done) | (simp; omega))) | (with_reducible refine Blk.past ?_ _) | ((with_reducible refine Blk.apart ?_ _ _ _ ?_); rotate_left; focus (first | omega | (simp; done) | (simp; omega))) | (with_reducible refine Blk.by (by assumption) ?_))); done))
        have hW5 : Below w3.heap.size w3 w5 := (by ((repeat (first | (with_reducible exact Below.refl _ _) | (with_reducible refine below_drewN ?_ _) | (with_reducible refine Below.drew ?_) | (with_reducible refine below_al ?_ _) | (with_reducible refine below_on (by assumption) ?_) | ((with_reducible refine Below.setCell ?_ ?_ _); rotate_left; focus (first | omega | (simp; done) | (simp; omega))) | (with_reducible assumption))); done))
        have hbw5 := below_on hW5 hb3w
        have hs5 := hW5.size
        have HOF := Lib.hid (HOC.out.by hW5)
        have qR := kR5.cell
        have fR := kR5.free
        have lR := kR5.lt
        have qK5 := kK5.cell
        clear hb4 hb5
        go_wp2
        refine bodyPost_ret (v := .tuple #[.agg #[.slice e c.1.length ce, .slice e' c.2.length ce'], .int .i64 (k : Int)]) (by simp [results, Tryz.results17, go_sem, *]) rfl ⟨_, by rw [← HRES.out], ?_, (by ((repeat (first | (with_reducible exact Below.refl _ _) | (with_reducible refine below_drewN ?_ _) | (with_reducible refine Below.drew ?_) | (with_reducible refine below_al ?_ _) | (with_reducible refine below_on (by assumption) ?_) | ((with_reducible refine Below.setCell ?_ ?_ _); rotate_left; focus (first | omega | (simp; done) | (simp; omega))) | (with_reducible assumption))); done))⟩
        have hres' := HRES.out
        rw [← hres']
        exact OwnPr.wide (OwnPr.past (Within.off _) (OwnPr.past (Within.off _) HOF.out (by omega)) (by omega)) (by omega) (by simp; omega)
    · have hd : decide (cntC (refS x c) ≤ cntC c) = false := decide_eq_false hle
      have HRES := Lib.hid (show refN x (63 - k) (refS x c) ((k : Int) + 1) = RES by rw [← hrn, refN_go hle])
      clear hcb hrn f1 f2 f3 f4 g1 g2 g3 g4 hbd hcr HF hfs
      generalize refS x c = RR at *
      generalize hK1 : cntC RR = K1 at *
      generalize cntC c = K2 at *
      go_wp2_with fail
      refine (HI.out _ _ _ (HN.out.by hb) HO.out.co).mono ?_
      rintro e2 w2 ⟨v2, rfl, hO2, hb2⟩
      have HO2 := Lib.hid hO2
      obtain ⟨b1, d1, b2, d2, rfl⟩ := hO2.co.sized
      have hs2 := hb2.size
      have lK := kK.lt
      have kA2 := Blk.by hb2 kA
      have kK2 := Blk.by hb2 kK
      have kR2 := Blk.by hb2 kR
      have hb2w := below_on hb2 hb
      have HC2 := Lib.hid (HO.out.by hb2)
      have qA2 := kA2.cell
      have qK2 := kK2.cell
      clear hO2 qA qK hb2 kA kK kR HO hb
      go_wp2_with fail
      obtain ⟨D, hD⟩ : ∃ D, w2.heap.size = D := ⟨_, rfl⟩
      obtain ⟨w3, hw3⟩ : ∃ z, z = w2.alloc (.cells #[.slice b1 RR.1.length d1, .slice b2 RR.2.length d2] 30) := ⟨_, rfl⟩
      have hal : Below w2.heap.size w2 w3 := by rw [hw3]; exact (Below.refl _ w2).alloc (Nat.le_refl _) _
      have kD3 : Blk w3 D #[.slice b1 RR.1.length d1, .slice b2 RR.2.length d2] 30 := by rw [hw3]; exact Blk.new _ hD.symm
      have hs3 : w3.heap.size = D + 1 := by rw [hw3]; simp [hD]
      have kA3 := Blk.by hal kA2
      have kK3 := Blk.by hal kK2
      have kR3 := Blk.by hal kR2
      have hb3w := below_on hal hb2w
      have HC3 := Lib.hid ((HC2.out.by hal).co)
      have HR3 := Lib.hid ((HO2.out.by hal).co)
      have HOC := Lib.hid (HC2.out.by hal)
      have HON := Lib.hid (HO2.out.by hal)
      rw [← hw3]
      (try rw [hD])
      (try rw [hD] at HON)
      clear hw3 hal kA2 kK2 kR2 qA2 qK2 hb2w HC2 HO2
      have hsz := hs3
      go_region_held3 ((fun w' => (Blk w' (D) #[.slice b1 RR.1.length d1, .slice b2 RR.2.length d2] 30 ∧ ∀ o, w'.cell? ⟨D, o, none⟩ = (#[.slice b1 RR.1.length d1, .slice b2 RR.2.length d2] : Array Value)[o]?) ∧ (Blk w' (K) #[.slice e c.1.length ce, .slice e' c.2.length ce'] 30 ∧ ∀ o, w'.cell? ⟨K, o, none⟩ = (#[.slice e c.1.length ce, .slice e' c.2.length ce'] : Array Value)[o]?) ∧ Below w.heap.size w w')) (((try (obtain ⟨⟨hS0, _⟩, ⟨hS1, _⟩, hSB⟩ := hHeld)); refine ⟨Blk.both ?_, Blk.both ?_, ?_⟩ <;> first | ((repeat (first | (with_reducible assumption) | (with_reducible refine Blk.drewN ?_ _) | (with_reducible refine Blk.drew ?_) | ((with_reducible refine Blk.new _ ?_); focus (first | omega | (simp; done) | (simp; omega))) | (with_reducible refine Blk.past ?_ _) | ((with_reducible refine Blk.apart ?_ _ _ _ ?_); rotate_left; focus (first | omega | (simp; done) | (simp; omega))) | (with_reducible refine Blk.by (by assumption) ?_))); done) | ((repeat (first | (with_reducible exact Below.refl _ _) | (with_reducible refine below_drewN ?_ _) | (with_reducible refine Below.drew ?_) | (with_reducible refine below_al ?_ _) | (with_reducible refine below_on (by assumption) ?_) | ((with_reducible refine Below.setCell ?_ ?_ _); rotate_left; focus (first | omega | (simp; done) | (simp; omega))) | (with_reducible assumption))); done))) (first | (go_at_call_of 22 (Value.agg #[Value.slice e c.1.length ce, Value.slice e' c.2.length ce']); refine (HCC.out _ _ (HC3.out.by (by ((repeat (first | (with_reducible exact Below.refl _ _) | (with_reducible refine below_drewN ?_ _) | (with_reducible refine Below.drew ?_) | (with_reducible refine below_al ?_ _) | (with_reducible refine below_on (by assumption) ?_) | ((with_reducible refine Below.setCell ?_ ?_ _); rotate_left; focus (first | omega | (simp; done) | (simp; omega))) | (with_reducible assumption))); done)))).mono ?_; rintro e5 w5 ⟨rfl, hb5⟩) | (go_at_call 22; refine (HCR.out _ _ (HR3.out.by (by ((repeat (first | (with_reducible exact Below.refl _ _) | (with_reducible refine below_drewN ?_ _) | (with_reducible refine Below.drew ?_) | (with_reducible refine below_al ?_ _) | (with_reducible refine below_on (by assumption) ?_) | ((with_reducible refine Below.setCell ?_ ?_ _); rotate_left; focus (first | omega | (simp; done) | (simp; omega))) | (with_reducible assumption))); done)))).mono ?_; rintro e4 w4 ⟨rfl, hb4⟩))
      all_goals
        have kA5 : Blk w5 w.heap.size #[.int .i64 x.nets, .slice a x.ds.length ca, .slice a' x.ps.length ca'] 27 := (by ((repeat (first | (with_reducible assumption) | (with_reducible refine Blk.drewN ?_ _) | (with_reducible refine Blk.drew ?_) | ((with_reducible refine Blk.new _ ?_); focus (first | omega | (simp; done) | (simp; omega))) | (with_reducible refine Blk.past ?_ _) | ((with_reducible refine Blk.apart ?_ _ _ _ ?_); rotate_left; focus (first | omega | (simp; done) | (simp; omega))) | (with_reducible refine Blk.by (by assumption) ?_))); done))
        have kR5 : Blk w5 (w.heap.size + 1) #[.slice none 0 0, .slice none 0 0] 30 := (by ((repeat (first | (with_reducible assumption) | (with_reducible refine Blk.drewN ?_ _) | (with_reducible refine Blk.drew ?_) | ((with_reducible refine Blk.new _ ?_); focus (first | omega | (simp; done) | (simp; omega))) | (with_reducible refine Blk.past ?_ _) | ((with_reducible refine Blk.apart ?_ _ _ _ ?_); rotate_left; focus (first | omega | (simp; done) | (simp; omega))) | (with_reducible refine Blk.by (by assumption) ?_))); done))
        have kK5 : Blk w5 K #[.slice e c.1.length ce, .slice e' c.2.length ce'] 30 := (by ((repeat (first | (with_reducible assumption) | (with_reducible refine Blk.drewN ?_ _) | (with_reducible refine Blk.drew ?_) | ((with_reducible refine Blk.new _ ?_); focus (first | omega | (simp; done) | (simp; omega))) | (with_reducible refine Blk.past ?_ _) | ((with_reducible refine Blk.apart ?_ _ _ _ ?_); rotate_left; focus (first | omega | (simp; done) | (simp; omega))) | (with_reducible refine Blk.by (by assumption) ?_))); done))
        have kD5 : Blk w5 D #[.slice b1 RR.1.length d1, .slice b2 RR.2.length d2] 30 := (by ((repeat (first | (with_reducible assumption) | (with_reducible refine Blk.drewN ?_ _) | (with_reducible refine Blk.drew ?_) | ((with_reducible refine Blk.new _ ?_); focus (first | omega | (simp; done) | (simp; omega))) | (with_reducible refine Blk.past ?_ _) | ((with_reducible refine Blk.apart ?_ _ _ _ ?_); rotate_left; focus (first | omega | (simp; done) | (simp; omega))) | (with_reducible refine Blk.by (by assumption) ?_))); done))
        have hW5 : Below w3.heap.size w3 w5 := (by ((repeat (first | (with_reducible exact Below.refl _ _) | (with_reducible refine below_drewN ?_ _) | (with_reducible refine Below.drew ?_) | (with_reducible refine below_al ?_ _) | (with_reducible refine below_on (by assumption) ?_) | ((with_reducible refine Below.setCell ?_ ?_ _); rotate_left; focus (first | omega | (simp; done) | (simp; omega))) | (with_reducible assumption))); done))
        have hbw5 := below_on hW5 hb3w
        have hs5 := hW5.size
        have HOF := Lib.hid (HON.out.by hW5)
        have qD := kD5.cell
        have qK5 := kK5.cell
        have fK := kK5.free
        have lK5 := kK5.lt
        have hKA : w.heap.size + 1 < K := hKw
        clear hb4 hb5
        go_wp2
        refine ⟨⟨RR, k + 1, wr.heap.size, D, b1, d1, b2, d2, by go_num, by omega, Lib.hid ⟨HCR2.out, ?_, ?_⟩, kK5.set2, Lib.hid (OwnPr.past (Within.off _) (OwnPr.past (Within.off _) HOF.out (.inr (by omega))) (.inr (by omega))), ⟨by omega, by omega, by simp; omega, by omega⟩, (kA5.apart K _ _ (by omega)).apart K _ _ (by omega), (kR5.apart K _ _ (by omega)).apart K _ _ (by omega), (hbw5.setCell (by simp; omega) _).setCell (by simp; omega) _⟩, by simp [intOf]; omega⟩
        · rw [HF1.out]
          have := HRES.out
          rw [show ((k + 1 : Nat) : Int) = (k : Int) + 1 by omega]
          exact this
        · omega


set_option maxRecDepth 100000 in
set_option maxHeartbeats 2000000 in
theorem implRefNet_any (x : Nl) (v : Value) (w : World) (h : NlV w v x) (hok : ∀ p ∈ x.ps, p.ok) (hnn : Fits x.nets) :
    Calls Tryz.prog 8 #[v] w fun e w' => ∃ v', e = .returned (.tuple #[v', .int .i64 (refNet x).2]) ∧ OwnPr w' w.heap.size w'.heap.size v' (refNet x).1 ∧ Below w.heap.size w w' := by
  have HV := Lib.hid (fun v w h => implNl_any x v w h hok hnn)
  have HN := Lib.hid h
  obtain ⟨Y, hY⟩ : ∃ Y, refNet x = Y := ⟨_, rfl⟩
  rw [hY]
  unfold refNet at hY
  obtain ⟨a, ca, a', ca', rfl⟩ := h.sized
  cases hb : nlB x with
  | false =>
    rw [hb] at HV hY
    have HY := Lib.hid (show (([], []), -1) = Y by simpa using hY)
    clear h hok hnn hb hY
    go_enter Tryz.func8, Tryz.ntmps8
    go_wp2_with fail
    refine (HV.out _ _ (HN.out.by (by ((repeat (first | (with_reducible exact Below.refl _ _) | (with_reducible refine below_drewN ?_ _) | (with_reducible refine Below.drew ?_) | (with_reducible refine below_al ?_ _) | (with_reducible refine below_on (by assumption) ?_) | ((with_reducible refine Below.setCell ?_ ?_ _); rotate_left; focus (first | omega | (simp; done) | (simp; omega))) | (with_reducible assumption))); done)))).mono ?_
    rintro e w1 ⟨rfl, hb1⟩
    have kR : Blk w1 (w.heap.size + 1) #[.slice none 0 0, .slice none 0 0] 30 := (by ((repeat (first | (with_reducible assumption) | (with_reducible refine Blk.drewN ?_ _) | (with_reducible refine Blk.drew ?_) | ((with_reducible refine Blk.new _ ?_); focus (first | omega | (simp; done) | (simp; omega))) | (with_reducible refine Blk.past ?_ _) | ((with_reducible refine Blk.apart ?_ _ _ _ ?_); rotate_left; focus (first | omega | (simp; done) | (simp; omega))) | (with_reducible refine Blk.by (by assumption) ?_))); done))
    have hW : Below w.heap.size w w1 := (by ((repeat (first | (with_reducible exact Below.refl _ _) | (with_reducible refine below_drewN ?_ _) | (with_reducible refine Below.drew ?_) | (with_reducible refine below_al ?_ _) | (with_reducible refine below_on (by assumption) ?_) | ((with_reducible refine Below.setCell ?_ ?_ _); rotate_left; focus (first | omega | (simp; done) | (simp; omega))) | (with_reducible assumption))); done))
    have qR := kR.cell
    have fR := kR.free
    have lR := kR.lt
    clear hb1
    go_wp2
    refine bodyPost_ret (v := .tuple #[.agg #[.slice none 0 0, .slice none 0 0], .int .i64 (-1)]) (by simp [results, Tryz.results8, go_sem, *]) rfl ⟨_, by rw [← HY.out], ?_, (by ((repeat (first | (with_reducible exact Below.refl _ _) | (with_reducible refine below_drewN ?_ _) | (with_reducible refine Below.drew ?_) | (with_reducible refine below_al ?_ _) | (with_reducible refine below_on (by assumption) ?_) | ((with_reducible refine Below.setCell ?_ ?_ _); rotate_left; focus (first | omega | (simp; done) | (simp; omega))) | (with_reducible assumption))); done))⟩
    rw [← HY.out]
    exact ⟨_, _, w.heap.size, w.heap.size, w.heap.size, w.heap.size, rfl, .inl ⟨_, _, rfl, rfl⟩, .inl ⟨_, _, rfl, rfl⟩, by (refine ⟨?_, ?_⟩ <;> simp; try omega), by (refine ⟨?_, ?_⟩ <;> simp; try omega), .inl (Nat.le_refl _)⟩
  | true =>
    have HI := Lib.hid (fun v w h => refined_any x v w h hb)
    rw [hb] at HV hY
    have hY' : refN x 64 (iniS x) 0 = Y := by simpa using hY
    rw [hY'] at HI
    clear h hok hnn hb hY hY'
    obtain ⟨⟨y1, y2⟩, st⟩ := Y
    dsimp only at HI ⊢
    go_enter Tryz.func8, Tryz.ntmps8
    go_wp2_with fail
    refine (HV.out _ _ (HN.out.by (by ((repeat (first | (with_reducible exact Below.refl _ _) | (with_reducible refine below_drewN ?_ _) | (with_reducible refine Below.drew ?_) | (with_reducible refine below_al ?_ _) | (with_reducible refine below_on (by assumption) ?_) | ((with_reducible refine Below.setCell ?_ ?_ _); rotate_left; focus (first | omega | (simp; done) | (simp; omega))) | (with_reducible assumption))); done)))).mono ?_
    rintro e w1 ⟨rfl, hb1⟩
    have kA : Blk w1 w.heap.size #[.int .i64 x.nets, .slice a x.ds.length ca, .slice a' x.ps.length ca'] 27 := (by ((repeat (first | (with_reducible assumption) | (with_reducible refine Blk.drewN ?_ _) | (with_reducible refine Blk.drew ?_) | ((with_reducible refine Blk.new _ ?_); focus (first | omega | (simp; done) | (simp; omega))) | (with_reducible refine Blk.past ?_ _) | ((with_reducible refine Blk.apart ?_ _ _ _ ?_); rotate_left; focus (first | omega | (simp; done) | (simp; omega))) | (with_reducible refine Blk.by (by assumption) ?_))); done))
    have kR : Blk w1 (w.heap.size + 1) #[.slice none 0 0, .slice none 0 0] 30 := (by ((repeat (first | (with_reducible assumption) | (with_reducible refine Blk.drewN ?_ _) | (with_reducible refine Blk.drew ?_) | ((with_reducible refine Blk.new _ ?_); focus (first | omega | (simp; done) | (simp; omega))) | (with_reducible refine Blk.past ?_ _) | ((with_reducible refine Blk.apart ?_ _ _ _ ?_); rotate_left; focus (first | omega | (simp; done) | (simp; omega))) | (with_reducible refine Blk.by (by assumption) ?_))); done))
    have hW : Below w.heap.size w w1 := (by ((repeat (first | (with_reducible exact Below.refl _ _) | (with_reducible refine below_drewN ?_ _) | (with_reducible refine Below.drew ?_) | (with_reducible refine below_al ?_ _) | (with_reducible refine below_on (by assumption) ?_) | ((with_reducible refine Below.setCell ?_ ?_ _); rotate_left; focus (first | omega | (simp; done) | (simp; omega))) | (with_reducible assumption))); done))
    have qA := kA.cell
    clear hb1
    go_wp2_with fail
    refine (HI.out _ _ (HN.out.by hW)).mono ?_
    rintro e w2 ⟨v2, rfl, hO, hb2⟩
    have HO2 := Lib.hid hO
    obtain ⟨a1, c1, a2, c2, rfl⟩ := hO.co.sized
    have lR1 := kR.lt
    have hs2 := hb2.size
    replace kR := Blk.by hb2 kR
    replace hW := below_on hb2 hW
    have qR := kR.cell
    have fR := kR.free
    have lR := kR.lt
    clear hb2 qA hO
    dsimp only at HO2 ⊢
    go_wp2
    refine bodyPost_ret (v := .tuple #[.agg #[.slice a1 y1.length c1, .slice a2 y2.length c2], .int .i64 st]) (by simp [results, Tryz.results8, go_sem, *]) rfl ⟨_, rfl, ?_, (by ((repeat (first | (with_reducible exact Below.refl _ _) | (with_reducible refine below_drewN ?_ _) | (with_reducible refine Below.drew ?_) | (with_reducible refine below_al ?_ _) | (with_reducible refine below_on (by assumption) ?_) | ((with_reducible refine Below.setCell ?_ ?_ _); rotate_left; focus (first | omega | (simp; done) | (simp; omega))) | (with_reducible assumption))); done))⟩
    exact OwnPr.wide (OwnPr.by ((Below.refl _ _).alloc (Nat.le_refl _) _) (OwnPr.past (Within.off _) (OwnPr.past (Within.off _) HO2.out (by omega)) (by omega))) (by omega) (by simp; try omega)


end Go.Proofs.YtpaiiaajbojmnaaGreat
