/- The walk of FnKirchhoff. -/
import Derived.Test.YtjolkdckhmmenaaDrawNp
import Derived.Test.YtjolkdckhmmenaaKirM
import Derived.Test.YtjolkdckhmmenaaTakeL
import Derived.Test.YtjolkdckhmmenaaPot
import Derived.Test.YtjolkdckhmmenaaCurI
import Derived.Test.YtjolkdckhmmenaaSums
import Derived.Test.YtjolkdckhmmenaaSrc
import Derived.BigQuiet
namespace Go.Proofs.Ytjolkdckhmmenaa.fnKirchhoff
open Go.RowKit Go.Proofs.Ytjolkdckhmmenaa
set_option linter.unusedVariables false
set_option linter.unusedSimpArgs false

theorem cell_ltK {w : World} {b o : Nat} {v : Value} (h : w.cell? ⟨b, o, none⟩ = some v) : b < w.heap.size := by
  rcases Nat.lt_or_ge b w.heap.size with h' | h'
  · exact h'
  · simp [World.cell?, Array.getElem?_eq_none h'] at h
/-- What stands in the sums' block while the resistors are gone through. -/
def SumsAt (T : Int) (F : Nat → Int) (n : Nat) (zs : List Rt) (cs : Array Value) : Prop :=
  zs.length = n ∧ n * 2 ≤ cs.size ∧ (∀ k x, zs[k]? = some x → RatCs cs k x) ∧ (∀ u, u < n → zs[u]? = some (rtOf (F u) T)) ∧ ∀ x ∈ zs, (-2000000000000000000 ≤ x.n ∧ x.n ≤ 2000000000000000000) ∧ (0 ≤ x.d ∧ x.d ≤ 2000000000000000000)
theorem SumsAt.put {T : Int} {F F' : Nat → Int} {n s t : Nat} {zs : List Rt} {cs : Array Value} {o1 o2 i1 i2 : Int} (h : SumsAt T F n zs cs) (hs : s < n) (ht : t < n) (hst : s ≠ t)
    (e1 : (⟨o1, o2⟩ : Rt) = rtOf (F' s) T) (e2 : (⟨i1, i2⟩ : Rt) = rtOf (F' t) T) (he : ∀ u, u ≠ s → u ≠ t → F' u = F u)
    (b1 : (-2000000000000000000 ≤ o1 ∧ o1 ≤ 2000000000000000000) ∧ (0 ≤ o2 ∧ o2 ≤ 2000000000000000000)) (b2 : (-2000000000000000000 ≤ i1 ∧ i1 ≤ 2000000000000000000) ∧ (0 ≤ i2 ∧ i2 ≤ 2000000000000000000)) :
    SumsAt T F' n ((zs.set s ⟨o1, o2⟩).set t ⟨i1, i2⟩) (putRat (putRat cs s (.int .i64 o1) (.int .i64 o2)) t (.int .i64 i1) (.int .i64 i2)) := by
  obtain ⟨h1, h2, h3, h4, h5⟩ := h
  refine ⟨by simp [h1], by rw [size_putRat, size_putRat]; exact h2, ?_, ?_, ?_⟩
  · intro k x hk
    by_cases ek : k = t
    · subst ek
      have : x = ⟨i1, i2⟩ := by
        rw [List.getElem?_set] at hk
        simp [h1, ht] at hk; exact hk.symm
      subst this
      exact putRat_same _ _ ⟨i1, i2⟩ (by rw [size_putRat]; omega)
    · rw [List.getElem?_set_ne (by omega)] at hk
      refine putRat_other _ _ _ _ _ _ ek ?_
      by_cases es : k = s
      · subst es
        have : x = ⟨o1, o2⟩ := by
          rw [List.getElem?_set] at hk
          simp [h1, hs] at hk; exact hk.symm
        subst this
        exact putRat_same _ _ ⟨o1, o2⟩ (by omega)
      · rw [List.getElem?_set_ne (by omega)] at hk
        exact putRat_other _ _ _ _ _ _ es (h3 k x hk)
  · intro u hu
    by_cases et : u = t
    · subst et; rw [← e2]; simp [h1, ht]
    · rw [List.getElem?_set_ne (by omega)]
      by_cases es : u = s
      · subst es; rw [← e1]; simp [h1, hs]
      · rw [List.getElem?_set_ne (by omega), he u es et]; exact h4 u hu
  · intro x hx
    rcases List.mem_or_eq_of_mem_set hx with h | h
    · rcases List.mem_or_eq_of_mem_set h with h | h
      · exact h5 x h
      · subst h; exact b1
    · subst h; exact b2

theorem SumsAt.start {T : Int} (hT : 0 < T) {F : Nat → Int} {n : Nat} {cs : Array Value} (hF : ∀ u, F u = 0) (hn : 0 < n) (hcs : ∀ i x, (List.replicate n (⟨0, 1⟩ : Rt))[i]? = some x → RatCs cs i x) : SumsAt T F n (List.replicate n ⟨0, 1⟩) cs := by
  have h0 := red_int 0 hT
  rw [Int.mul_zero] at h0
  refine ⟨by simp, ?_, hcs, fun u hu => ?_, fun x hx => ?_⟩
  · obtain ⟨_, h2⟩ := hcs (n - 1) ⟨0, 1⟩ (by rw [List.getElem?_replicate, if_pos (by omega)])
    have := (Array.getElem?_eq_some_iff.1 h2).1
    omega
  · rw [hF u, h0]; simp [hu]
  · rw [List.mem_replicate] at hx
    rw [hx.2]
    exact ⟨⟨by decide, by decide⟩, ⟨by decide, by decide⟩⟩

set_option maxRecDepth 100000 in
set_option maxHeartbeats 16000000 in
theorem walk (v0 : Value) (w : World) (n : Nat) (hB : Bytes w v0 n) :
    Calls Try.prog 4 #[v0] w fun e w' => e = .returned (.bool true) ∧ Below w.heap.size w w' := by
  have HB := Lib.hid hB
  have HBG := Lib.hid (fun w h => big_any v0 n w h)
  by_cases hn : 4096 < n
  · rw [decide_eq_true hn] at HBG
    clear hB hn
    go_enter Try.func4, Try.ntmps4
    go_wp2_with fail
    refine (HBG.out _ HB.out).mono ?_
    rintro e w1 ⟨rfl, rfl⟩
    go_wp2
    go_ret
    exact ⟨rfl, Below.refl _ _⟩
  · rw [decide_eq_false hn] at HBG
    have HDR := Lib.hid (fun w h => drawNp_any v0 n w h (by omega))
    clear hB hn
    go_enter Try.func4, Try.ntmps4
    go_wp2_with fail
    refine (HBG.out _ HB.out).mono ?_
    rintro e w1 ⟨rfl, rfl⟩
    go_wp2_with fail
    refine (HDR.out _ HB.out).mono ?_
    rintro e w1 ⟨x, rv, a, b, rfl, HR1, HX, hab, hbb, hb1⟩
    obtain ⟨ar, cr, rfl⟩ := HR1.out.len
    obtain ⟨N, hN⟩ : ∃ N, x.nodes = N := ⟨_, rfl⟩
    obtain ⟨L, hL⟩ : ∃ L, x.rs.length = L := ⟨_, rfl⟩
    have hNb : 0 ≤ N ∧ N ≤ 7 := by have := HX.out.1; omega
    have hLb : 0 < L ∧ L ≤ 16 := by have := HX.out.2.1; omega
    have HV1 : Hid (NwV w1 (.agg #[.int .i64 N, .slice ar L cr]) x) := Lib.hid ⟨.slice ar L cr, by rw [hN], by have := HR1.out; rw [hL] at this; exact this⟩
    have H1 := Lib.hid (fun w h => implPot_any x a b (.agg #[.int .i64 N, .slice ar L cr]) w h HX.out.2.2 (by unfold Fits; have := HX.out.1; omega))
    have H2 := Lib.hid (fun w h => implCur_any x a b (.agg #[.int .i64 N, .slice ar L cr]) w h HX.out.2.2 (by unfold Fits; have := HX.out.1; omega))
    have hRS : ResSl w1 (.slice ar L cr) x.rs := by have := HR1.out; rw [hL] at this; exact this
    rw [hN, hL]
    have HNn := Lib.hid hN
    have HLn := Lib.hid hL
    have hal : Below w1.heap.size w1 (w1.alloc (.cells #[.int .i64 N, .slice ar L cr] 26)) := (Below.refl _ w1).alloc (Nat.le_refl _) _
    have kT2 : Blk (w1.alloc (.cells #[.int .i64 N, .slice ar L cr] 26)) w1.heap.size #[.int .i64 N, .slice ar L cr] 26 := Blk.new _ rfl
    have HV2 := Lib.hid (HV1.out.by hal)
    have HRS2 := Lib.hid (hRS.by hal)
    have hb2 := below_on hal hb1
    have qT := kT2.cell
    have lT := kT2.lt
    clear hN hL HR1 HX hal hb1 hRS HV1
    go_wp2_with fail
    generalize w1.alloc (.cells #[.int .i64 N, .slice ar L cr] 26) = w2 at *
    generalize w1.heap.size = T at *
    refine (H1.out _ HV2.out).mono ?_
    rintro e w3 ⟨v3, rfl, hO3, hb3⟩
    obtain ⟨av, cv, rfl⟩ := hO3.sl.len
    obtain ⟨LV, hLV⟩ : ∃ L, (potS x a b).length = L := ⟨_, rfl⟩
    have HS3 := Lib.hid hO3.sl
    rw [hLV] at HS3 ⊢
    have HLV := Lib.hid hLV
    have kT3 := Blk.by hb3 kT2
    have HV3 := Lib.hid (HV2.out.by hb3)
    have HRS3 := Lib.hid (HRS2.out.by hb3)
    have hb3w := below_on hb3 hb2
    clear hO3 hb3 hb2 kT2 HV2 HRS2 qT lT hLV
    have qT := kT3.cell
    have lT := kT3.lt
    go_wp2_with fail
    refine (H2.out _ HV3.out).mono ?_
    rintro e w5 ⟨v5, rfl, hO5, hb5⟩
    obtain ⟨ac, cc, rfl⟩ := hO5.sl.len
    obtain ⟨LC, hLC⟩ : ∃ L, (curS x a b).length = L := ⟨_, rfl⟩
    have HS5 := Lib.hid hO5.sl
    rw [hLC] at HS5 ⊢
    have HLC := Lib.hid hLC
    have kT5 := Blk.by hb5 kT3
    have HP5 := Lib.hid (HS3.out.by hb5)
    have HRS5 := Lib.hid (HRS3.out.by hb5)
    have hb5w := below_on hb5 hb3w
    clear hO5 hb5 hb3w kT3 HV3 HRS3 HS3 qT lT hLC H1 H2
    have qT := kT5.cell
    have lT := kT5.lt
    by_cases hC : nkC x a b = 0
    · obtain ⟨hv, hiA, hiB, hall⟩ := nk_yes hC
      have hNx := HNn.out
      have hLx := HLn.out
      have hTp : 0 < (nkP x a).tot := by rw [nk_P hC]; exact (nkX hC).T_pos
      have hTl : (nkP x a).tot ≤ 2560000000000000000 := by rw [nk_P hC]; exact (nkX hC).T_le
      have hEA := (nw_facts hv).2.2.1
      have hLVn : LV = x.nodes.toNat := by rw [← HLV.out]; unfold potS; rw [if_pos hC]; simp
      have hLCn : LC = L := by rw [← HLC.out, ← hLx]; unfold curS; rw [if_pos hC]; simp
      have hSB : ∀ u, 0 ≤ nkT x a b u ∧ nkT x a b u ≤ 2560000000000000000 := fun u => by rw [nk_T hC]; exact (nkX hC).S_bd u
      have hCE : ∀ r ∈ x.rs, nkT x a b r.a - nkT x a b r.b = r.num * curQ x a b r ∧ -2560000000000000000 ≤ curQ x a b r * r.den ∧ curQ x a b r * r.den ≤ 2560000000000000000 := fun r hr => (nkX hC).cur_eq hr
      have hFA : ∀ u, flow (fun r => curQ x a b r * r.den) x.rs u = (nkP x a).tot * dueK a.toNat b.toNat u := fun u => (nkX hC).flow_all u
      have hPV : ∀ u : Nat, (u : Int) < x.nodes → (potS x a b)[u]? = some (rtOf (nkT x a b u) (nkP x a).tot) := by
        intro u hu
        unfold potS; rw [if_pos hC, List.getElem?_map, List.getElem?_range (by omega)]; rfl
      have hCV : ∀ (i : Nat) r, x.rs[i]? = some r → (curS x a b)[i]? = some (rtOf (curQ x a b r * r.den) (nkP x a).tot) := by
        intro i r hr
        unfold curS; rw [if_pos hC]; simp [hr]
      have hSb : nkT x a b b = 0 := by
        have h := (nkX hC).S_b
        have e : (((nkX hC).b : Nat) : Int) = b := by show ((b.toNat : Nat) : Int) = b; omega
        rw [e] at h; exact h
      rw [hNx] at hiA hiB hPV hLVn
      rw [hC]
      generalize (nkP x a).tot = TT at *
      generalize hS : (fun u : Int => nkT x a b u) = SS at *
      have hSS : ∀ u, nkT x a b u = SS u := fun u => by rw [← hS]
      simp only [hSS] at hSB hCE hPV hSb
      clear hS hSS
      generalize hQ : (fun r => curQ x a b r) = QQ at *
      have hQQ : ∀ r, curQ x a b r = QQ r := fun r => by rw [← hQ]
      simp only [hQQ] at hCE hFA hCV
      clear hQ hQQ
      obtain ⟨m, rfl⟩ : ∃ m : Nat, N = (m : Int) := ⟨N.toNat, by omega⟩
      obtain ⟨p, rfl⟩ : ∃ p : Nat, a = (p : Int) := ⟨a.toNat, by omega⟩
      obtain ⟨q, rfl⟩ : ∃ q : Nat, b = (q : Int) := ⟨b.toNat, by omega⟩
      obtain rfl : LV = m := by omega
      subst hLCn
      simp only [Int.toNat_natCast] at hFA
      rw [hNx] at hEA
      have hqm : q < LV := by omega
      have hpm : p < LV := by omega
      have hm : LV ≤ 7 := by omega
      -- the potentials' and the currents' cells
      rcases HP5.out with ⟨_, _, _, h2⟩ | ⟨vb, vo, cap, hev, hv1, hv2, hv3⟩
      · have := HLV.out; rw [h2] at this; simp at this; omega
      rcases HS5.out with ⟨_, _, _, h2⟩ | ⟨cb, co, cap2, hec, hc1, hc2, hc3⟩
      · have := HLC.out; rw [h2] at this; simp at this; omega
      obtain ⟨rfl, rfl⟩ : av = some ⟨vb, vo, none⟩ ∧ cv = cap := by simp at hev; exact ⟨hev.1, hev.2.2⟩
      obtain ⟨rfl, rfl⟩ : ac = some ⟨cb, co, none⟩ ∧ cc = cap2 := by simp at hec; exact ⟨hec.1, hec.2.2⟩
      rcases HRS5.out with ⟨_, _, _, h2⟩ | ⟨rb, ro, cap3, her, hr1, hr2, hr3⟩
      · have := HLn.out; rw [h2] at this; simp at this; omega
      obtain ⟨rfl, rfl⟩ : ar = some ⟨rb, ro, none⟩ ∧ cr = cap3 := by simp at her; exact ⟨her.1, her.2.2⟩
      have HVC := Lib.hid (fun (u : Nat) (hu : u < LV) => hv3 u _ (hPV u (by omega)))
      have HCC := Lib.hid (fun (i : Nat) r (hr : x.rs[i]? = some r) => hc3 i _ (hCV i r hr))
      have HRC := Lib.hid hr3
      have hvq := HVC.out q hqm
      rw [hSb] at hvq
      have hr0 := red_int 0 hTp
      rw [Int.mul_zero] at hr0
      rw [hr0] at hvq
      obtain ⟨cvq0, cvq1⟩ := hvq
      dsimp only at cvq0 cvq1
      have HTp := Lib.hid hTp
      have HTl := Lib.hid hTl
      have HEA := Lib.hid hEA
      have HSB := Lib.hid hSB
      have HCE := Lib.hid hCE
      have HFA := Lib.hid hFA
      have HC := Lib.hid hC
      have hvb : vb < w5.heap.size := cell_ltK cvq0
      clear hLVn hv hall hNx hLx hTp hTl hEA hSB hCE hFA hPV hCV hSb hv3 hc3 hr3 hr0 HP5 HS5 HRS5 hC hev hec her hv1 hv2 hc1 hc2 hr1 hr2
      have hqd : decide (q < LV) = true := decide_eq_true hqm
      have hqi : (q : Int) < (LV : Int) := by omega
      have hTl5 := kT5.lt
      go_wp2
      clear qT lT cvq0 cvq1
      have HVB := Lib.hid hvb
      clear hvb
      go_loopw [10, 11] (fun u z wr => ∃ (k hi : Nat), z = .int .i64 (k : Int) ∧ k ≤ LV ∧ Hid (BldRat wr w5.heap.size hi u (List.replicate k ⟨0, 1⟩)) ∧ w5.heap.size < hi ∧ Below w5.heap.size w5 wr) (fun _ z _ => LV - (intOf z).toNat)
      case atStart =>
        exact ⟨0, w5.heap.size + 1, by go_num, Nat.zero_le _, Lib.hid (BldRat.none (cs := #[]) (Blk.new _ rfl) rfl (Nat.le_refl _) (by omega) (by simp)), by omega, (by ((repeat (first | (with_reducible exact Below.refl _ _) | (with_reducible refine below_drewN ?_ _) | (with_reducible refine Below.drew ?_) | (with_reducible refine below_al ?_ _) | (with_reducible refine below_on (by assumption) ?_) | ((with_reducible refine Below.setCell ?_ ?_ _); rotate_left; focus (first | omega | (simp; done) | (simp; omega))) | (with_reducible assumption))); done))⟩
      case round =>
        obtain ⟨k, hi, rfl, hk, HB, hhi, hb⟩ := hrel
        obtain ⟨au, cu, rfl⟩ := HB.out.sized
        rw [List.length_replicate] at HB ⊢
        have cT0 : wr.cell? ⟨T, 0, none⟩ = some (.int .i64 (LV : Int)) := cell_by' hb (kT5.cell 0)
        have hbs := hb.size
        have lT : T < wr.heap.size := by omega
        by_cases hlt : k < LV
        · have hki : (k : Int) < (LV : Int) := by omega
          go_wp2_with (refine list_pushRat (by rfl) _ _ (by rfl) w5.heap.size hi (.slice au k cu) (List.replicate k ⟨0, 1⟩) (by rfl) (HB.out.by (by ((repeat (first | (with_reducible exact Below.refl _ _) | (with_reducible refine below_drewN ?_ _) | (with_reducible refine Below.drew ?_) | (with_reducible refine below_al ?_ _) | (with_reducible refine below_on (by assumption) ?_) | ((with_reducible refine Below.setCell ?_ ?_ _); rotate_left; focus (first | omega | (simp; done) | (simp; omega))) | (with_reducible assumption))); done))) wr.heap.size ⟨0, 1⟩ (by rfl) (Blk.new _ rfl) (by omega) (by rw [List.length_replicate]; omega) ?_; intro a9 c9 w9 hB9 hw9; rw [List.length_replicate] at hB9 ⊢; have HB9 := Lib.hid hB9; clear hB9)
          have hs9 := hw9.size
          simp only [World.size_alloc] at hs9
          exact ⟨⟨k + 1, w9.heap.size, by go_num, by omega, Lib.hid (by rw [List.replicate_succ']; exact HB9.out), by omega, hw9.below (hb.alloc hbs _) (Nat.le_refl _)⟩, by simp [intOf]; omega⟩
        · obtain rfl : k = LV := by omega
          have hki : ¬ (k : Int) < (k : Int) := by omega
          rcases HB.out.own with ⟨_, _, _, h2⟩ | ⟨g, cap9, cs0, heu, ⟨hg1, hg2⟩, hcg1, hcg2, kG0, hcs0⟩
          · have := congrArg List.length h2; simp at this; omega
          rw [List.length_replicate] at heu hcg1
          obtain ⟨rfl, rfl⟩ : au = some ⟨g, 0, none⟩ ∧ cu = cap9 := by simp at heu; exact ⟨heu.1, heu.2⟩
          have HS0 := Lib.hid (show SumsAt TT (fun u => flow (fun r => QQ r * r.den) (x.rs.take 0) u) k (List.replicate k ⟨0, 1⟩) cs0 from SumsAt.start HTp.out (fun u => by simp [flow, lsum]) (by omega) hcs0)
          have HG0 := Lib.hid kG0
          clear heu hcg1 hcg2 hcs0 kG0 HB hhi hg2 hlt hk
          go_wp2
          clear cT0 lT hki
          go_loopw [12] (fun z wr2 => ∃ (i : Nat) (zs : List Rt) (cs : Array Value), z = .int .i64 (i : Int) ∧ i ≤ LC ∧ Hid (Blk wr2 g cs 30) ∧ Hid (SumsAt TT (fun u => flow (fun r => QQ r * r.den) (x.rs.take i) u) k zs cs) ∧ Below w5.heap.size w5 wr2) (fun z _ => LC - (intOf z).toNat)
          case atStart => exact ⟨0, _, cs0, by go_num, Nat.zero_le _, HG0, HS0, hb⟩
          case round =>
            clear HG0 HS0 hb hbs
            obtain ⟨i, zs, cs, rfl, hi, HG, HS, hb⟩ := hrel
            by_cases hlt : i < LC
            · obtain ⟨r, hr⟩ : ∃ r, x.rs[i]? = some r := ⟨_, List.getElem?_eq_getElem (by rw [HLn.out]; exact hlt)⟩
              have hrm := List.mem_of_getElem? hr
              obtain ⟨⟨a0, a1⟩, ⟨b0, b1⟩, hne, hvr, hnum, hden⟩ := HEA.out r hrm
              obtain ⟨ra0, ra1, ra2, ra3⟩ := HRC.out i r hr
              have hCi := HCC.out i r hr
              have hce := HCE.out r hrm
              obtain ⟨s, hs⟩ : ∃ s : Nat, r.a = (s : Int) := ⟨r.a.toNat, by omega⟩
              obtain ⟨t, ht⟩ : ∃ t : Nat, r.b = (t : Int) := ⟨r.b.toNat, by omega⟩
              have hflow : ∀ u, flow (fun r => QQ r * r.den) (x.rs.take (i + 1)) u = flow (fun r => QQ r * r.den) (x.rs.take i) u + ((if t = u then QQ r * r.den else 0) - (if s = u then QQ r * r.den else 0)) := fun u => by
                rw [List.take_add_one, hr, Option.toList_some, flow_snoc, hs, ht, Int.toNat_natCast, Int.toNat_natCast]
              rw [hs, ht] at hce
              rw [hs] at ra0 a1 hne
              rw [ht] at ra1 b1 hne
              have hsk : s < k := by omega
              have htk : t < k := by omega
              have hst : s ≠ t := by omega
              obtain ⟨z1, z2, z3, z4, z5⟩ := HS.out
              have zs1 := z4 s hsk
              have zt1 := z4 t htk
              dsimp only at zs1 zt1
              have zs2 := z5 _ (List.mem_of_getElem? zs1)
              have zt2 := z5 _ (List.mem_of_getElem? zt1)
              have zs3 := z3 s _ zs1
              have zt3 := z3 t _ zt1
              have hTp := HTp.out
              have hTl := HTl.out
              have hvs := HVC.out s hsk
              have hvt := HVC.out t htk
              have hsbs := HSB.out (s : Int)
              have hsbt := HSB.out (t : Int)
              obtain ⟨num, hn1⟩ : ∃ z, r.num = z := ⟨_, rfl⟩
              obtain ⟨den, hn2⟩ : ∃ z, r.den = z := ⟨_, rfl⟩
              obtain ⟨Q, hn3⟩ : ∃ z, QQ r = z := ⟨_, rfl⟩
              rw [hn1] at hvr hnum ra2 hce
              rw [hn2] at hvr hden ra3 hce hCi
              rw [hn3] at hCi hce
              simp only [hn2, hn3] at hflow
              obtain ⟨K, hK⟩ : ∃ K, Q * den = K := ⟨_, rfl⟩
              rw [hK] at hCi hce
              simp only [hK] at hflow
              obtain ⟨Sa, hSa⟩ : ∃ z, SS (s : Int) = z := ⟨_, rfl⟩
              obtain ⟨Sb, hSb⟩ : ∃ z, SS (t : Int) = z := ⟨_, rfl⟩
              rw [hSa] at hvs hsbs hce
              rw [hSb] at hvt hsbt hce
              obtain ⟨Fs, hFs⟩ : ∃ z, flow (fun r => QQ r * r.den) (x.rs.take i) s = z := ⟨_, rfl⟩
              obtain ⟨Ft, hFt⟩ : ∃ z, flow (fun r => QQ r * r.den) (x.rs.take i) t = z := ⟨_, rfl⟩
              rw [hFs] at zs2 zs3
              rw [hFt] at zt2 zt3
              have bK := red_abs K hTp 2560000000000000000 (by omega) (by omega)
              have bSb := red_abs Sb hTp 2560000000000000000 (by omega) (by omega)
              obtain ⟨R1, e1⟩ : ∃ z, arC (redN K TT) (redD K TT) num den = z := ⟨_, rfl⟩
              obtain ⟨DN, e2⟩ : ∃ z, whenN R1 (redN K TT * num) (redD K TT * den) = z := ⟨_, rfl⟩
              obtain ⟨DD, e3⟩ : ∃ z, whenD R1 (redN K TT * num) (redD K TT * den) = z := ⟨_, rfl⟩
              obtain ⟨R2, e4⟩ : ∃ z, arC (redN Sb TT) (redD Sb TT) DN DD = z := ⟨_, rfl⟩
              obtain ⟨LN, e5⟩ : ∃ z, whenN R2 (redN Sb TT * DD + DN * redD Sb TT) (redD Sb TT * DD) = z := ⟨_, rfl⟩
              obtain ⟨LD, e6⟩ : ∃ z, whenD R2 (redN Sb TT * DD + DN * redD Sb TT) (redD Sb TT * DD) = z := ⟨_, rfl⟩
              obtain ⟨R3, e7⟩ : ∃ z, arC (redN Fs TT) (redD Fs TT) (-redN K TT) (redD K TT) = z := ⟨_, rfl⟩
              obtain ⟨ON, e8⟩ : ∃ z, whenN R3 (redN Fs TT * redD K TT + -redN K TT * redD Fs TT) (redD Fs TT * redD K TT) = z := ⟨_, rfl⟩
              obtain ⟨OD, e9⟩ : ∃ z, whenD R3 (redN Fs TT * redD K TT + -redN K TT * redD Fs TT) (redD Fs TT * redD K TT) = z := ⟨_, rfl⟩
              obtain ⟨R4, e10⟩ : ∃ z, arC (redN Ft TT) (redD Ft TT) (redN K TT) (redD K TT) = z := ⟨_, rfl⟩
              obtain ⟨IN, e11⟩ : ∃ z, whenN R4 (redN Ft TT * redD K TT + redN K TT * redD Ft TT) (redD Ft TT * redD K TT) = z := ⟨_, rfl⟩
              obtain ⟨ID, e12⟩ : ∃ z, whenD R4 (redN Ft TT * redD K TT + redN K TT * redD Ft TT) (redD Ft TT * redD K TT) = z := ⟨_, rfl⟩
              have HSTEP := Lib.hid (kir_step hTp hvr (by omega) hK.symm hce.1 rfl rfl e1 e2 e3 e4 e5 e6 e7 e8 e9 e10 e11 e12)
              have bD := @when_mul_bd (redN K TT) (redD K TT) num den
              rw [e1, e2, e3] at bD
              have bO := @when_add_bd (redN Fs TT) (redD Fs TT) (-redN K TT) (redD K TT)
              rw [e7, e8, e9] at bO
              have bI := @when_add_bd (redN Ft TT) (redD Ft TT) (redN K TT) (redD K TT)
              rw [e10, e11, e12] at bI
              dsimp only [rtOf] at zs2 zt2
              have HA1 := fun w => specMultiplyRatios_any (redN K TT) (redD K TT) num den w (by omega) (by omega) (by omega) (by omega)
              have HA2 := fun w => specAddRatios_any (redN Sb TT) (redD Sb TT) DN DD w (by omega) (by omega) (by omega) (by omega)
              have HA3 := fun w => specAddRatios_any (redN Fs TT) (redD Fs TT) (-redN K TT) (redD K TT) w (by omega) (by omega) (by omega) (by omega)
              have HA4 := fun w => specAddRatios_any (redN Ft TT) (redD Ft TT) (redN K TT) (redD K TT) w (by omega) (by omega) (by omega) (by omega)
              rw [e1, e2, e3] at HA1
              rw [e4, e5, e6] at HA2
              rw [e7, e8, e9] at HA3
              rw [e10, e11, e12] at HA4
              have hFlow : ∀ u, u ≠ s → u ≠ t → flow (fun r => QQ r * r.den) (x.rs.take (i + 1)) u = flow (fun r => QQ r * r.den) (x.rs.take i) u := fun u h1 h2 => by
                rw [hflow u, if_neg (fun e => h2 e.symm), if_neg (fun e => h1 e.symm)]; omega
              have hFlowS : flow (fun r => QQ r * r.den) (x.rs.take (i + 1)) s = Fs - K := by rw [hflow s, hFs, if_neg (fun e => hst e.symm), if_pos rfl]; omega
              have hFlowT : flow (fun r => QQ r * r.den) (x.rs.take (i + 1)) t = Ft + K := by rw [hflow t, hFt, if_pos rfl, if_neg hst]; omega
              have HFL := Lib.hid (And.intro hFlow (And.intro hFlowS hFlowT))
              have HOB := Lib.hid bO
              have HIB := Lib.hid bI
              obtain ⟨cc0, cc1⟩ := hCi
              obtain ⟨vs0, vs1⟩ := hvs
              obtain ⟨vt0, vt1⟩ := hvt
              obtain ⟨gs0, gs1⟩ := zs3
              obtain ⟨gt0, gt1⟩ := zt3
              dsimp only [rtOf] at cc0 cc1 vs0 vs1 vt0 vt1 gs0 gs1 gt0 gt1
              have wneg : IntKind.i64.wrap (-redN K TT) = -redN K TT := by simp [IntKind.wrap, IntKind.bits, IntKind.signed]; omega
              have HS' := Lib.hid HS.out
              clear hflow hFlow hFlowS hFlowT bO bI bD e1 e2 e3 e4 e5 e6 e7 e8 e9 e10 e11 e12 hce hK hn1 hn2 hn3 hSa hSb hFs hFt z1 z2 z3 z4 z5 zs1 zt1 zs2 zt2 hTp hTl hsbs hsbt bSb hvr hne hr hrm hs ht HS
              generalize redN K TT = cN at *
              generalize redD K TT = cD at *
              generalize redN Sb TT = VTn at *
              generalize redD Sb TT = VTd at *
              generalize redN Fs TT = FSn at *
              generalize redD Fs TT = FSd at *
              generalize redN Ft TT = FTn at *
              generalize redD Ft TT = FTd at *
              obtain ⟨VSn, hVSn⟩ : ∃ z, redN Sa TT = z := ⟨_, rfl⟩
              obtain ⟨VSd, hVSd⟩ : ∃ z, redD Sa TT = z := ⟨_, rfl⟩
              rw [hVSn, hVSd] at HSTEP
              rw [hVSn] at vs0
              rw [hVSd] at vs1
              clear hVSn hVSd
              have HA1 := Lib.hid HA1
              have HA2 := Lib.hid HA2
              have HA3 := Lib.hid HA3
              have HA4 := Lib.hid HA4
              have lc5 := cell_ltK cc0
              have lv5 := cell_ltK vs0
              have lr5 := cell_ltK ra0
              have hsd : decide (s < k) = true := decide_eq_true hsk
              have htd : decide (t < k) = true := decide_eq_true htk
              have hsi : (s : Int) < (k : Int) := by omega
              have hti : (t : Int) < (k : Int) := by omega
              have hid1 : decide (i < LC) = true := decide_eq_true hlt
              have hii : (i : Int) < (LC : Int) := by omega
              have hbs := hb.size
              have cT1 : wr.cell? ⟨T, 1, none⟩ = some (.slice (some ⟨rb, ro, none⟩) LC cr) := cell_by' hb (kT5.cell 1)
              have lT : T < wr.heap.size := by omega
              have lrr : rb < wr.heap.size := by omega
              have rr0 := cell_by' hb ra0
              have rr1 := cell_by' hb ra1
              have rr2 := cell_by' hb ra2
              have rr3 := cell_by' hb ra3
              have hal : Below wr.heap.size wr (wr.alloc (.cells #[.int .i64 (s : Int), .int .i64 (t : Int), .int .i64 num, .int .i64 den] 39)) := (Below.refl _ wr).alloc (Nat.le_refl _) _
              have kPwA : Blk (wr.alloc (.cells #[.int .i64 (s : Int), .int .i64 (t : Int), .int .i64 num, .int .i64 den] 39)) wr.heap.size #[.int .i64 (s : Int), .int .i64 (t : Int), .int .i64 num, .int .i64 den] 39 := Blk.new _ rfl
              have kGwA := Blk.by hal HG.out
              have hWwA : Below w5.heap.size w5 (wr.alloc (.cells #[.int .i64 (s : Int), .int .i64 (t : Int), .int .i64 num, .int .i64 den] 39)) := below_on hal hb
              have hgP := HG.out.lt
              have hPA := kPwA.lt
              clear ra0 ra1 ra2 ra3 hal HG hb lr5
              go_upto_region 19 with fail
              generalize wr.alloc (.cells #[.int .i64 (s : Int), .int .i64 (t : Int), .int .i64 num, .int .i64 den] 39) = wA at *
              generalize wr.heap.size = P at *
              clear rr0 rr1 rr2 rr3 cT1 lT lrr
              have hszwA := hWwA.size
              have lcwA := Nat.lt_of_lt_of_le lc5 hszwA
              have cPwA := kPwA.cell
              have lPwA := kPwA.lt
              have cc0wA := cell_by' hWwA cc0
              have cc1wA := cell_by' hWwA cc1
              go_cut [14, 15] (fun sp sc wx => ∃ B : Nat, sp = .pointer (some ⟨B, 0, none⟩) ∧ sc = .int .i64 R1 ∧ Hid (Blk wx B #[.int .i64 DN, .int .i64 DD] 30) ∧ wA.heap.size ≤ B ∧ Hid (Below wA.heap.size wA wx))
              case first =>
                have hS : (fun w' : World => Below wA.heap.size wA w') { wA with drawn := wA.drawn + 1 } := (Below.refl _ wA).drew
                refine wp_region_any (by kernel_rfl) (wpAny_of_E (S := (fun w' : World => Below wA.heap.size wA w')) (l := 12) _ _ _ _ ?_)
                change wpAnyE _ _ _ _ _ _ _ _ _ wA.drew
                refine wpAnyE_takeL (i := 0) (v := ?_) rfl (by kernel_rfl) (fun _ _ _ h => h) (Or.inl ⟨by rfl, ?_⟩) hS ?_
                rotate_left
                · intro w hSw; (try dsimp only at hSw); obtain ⟨hcS, hfS⟩ := bcell hSw; clear hSw; go_simp; (try with_reducible rfl)
                try simp only [Act.put, List.setIfInBounds_toArray, List.set_cons_zero, List.set_cons_succ]
                refine wpAnyE_takeL (i := 1) (v := ?_) rfl (by kernel_rfl) (fun _ _ _ h => h) (Or.inl ⟨by rfl, ?_⟩) hS ?_
                rotate_left
                · intro w hSw; (try dsimp only at hSw); obtain ⟨hcS, hfS⟩ := bcell hSw; clear hSw; go_simp; (try with_reducible rfl)
                try simp only [Act.put, List.setIfInBounds_toArray, List.set_cons_zero, List.set_cons_succ]
                refine wpAnyE_takeL (i := 2) (v := ?_) rfl (by kernel_rfl) (fun _ _ _ h => h) (Or.inl ⟨by rfl, ?_⟩) hS ?_
                rotate_left
                · intro w hSw; (try dsimp only at hSw); obtain ⟨hcS, hfS⟩ := bcell hSw; clear hSw; go_simp; (try with_reducible rfl)
                try simp only [Act.put, List.setIfInBounds_toArray, List.set_cons_zero, List.set_cons_succ]
                refine wpAnyE_takeL (i := 3) (v := ?_) rfl (by kernel_rfl) (fun _ _ _ h => h) (Or.inl ⟨by rfl, ?_⟩) hS ?_
                rotate_left
                · intro w hSw; (try dsimp only at hSw); obtain ⟨hcS, hfS⟩ := bcell hSw; clear hSw; go_simp; (try with_reducible rfl)
                try simp only [Act.put, List.setIfInBounds_toArray, List.set_cons_zero, List.set_cons_succ]
                refine wpAnyE_takeL (i := 4) (v := ?_) rfl (by kernel_rfl) (fun _ _ _ h => h) (Or.inl ⟨by rfl, ?_⟩) hS ?_
                rotate_left
                · intro w hSw; (try dsimp only at hSw); obtain ⟨hcS, hfS⟩ := bcell hSw; clear hSw; go_simp; (try with_reducible rfl)
                try simp only [Act.put, List.setIfInBounds_toArray, List.set_cons_zero, List.set_cons_succ]
                refine wpAnyE_takeL (i := 5) (v := ?_) rfl (by kernel_rfl) (fun _ _ _ h => h) (Or.inl ⟨by rfl, ?_⟩) hS ?_
                rotate_left
                · intro w hSw; (try dsimp only at hSw); obtain ⟨hcS, hfS⟩ := bcell hSw; clear hSw; go_simp; (try with_reducible rfl)
                try simp only [Act.put, List.setIfInBounds_toArray, List.set_cons_zero, List.set_cons_succ]
                refine wpAnyE_twoL (k := 6) (k' := 10) (by kernel_rfl) rfl rfl (fun K hK => ?_) (fun K hK => ?_)
                · go_simp
                  go_at_call 14
                  refine (HA1.out _).mono ?_
                  rintro e wb ⟨rfl, hbb⟩
                  have hbw : Below wA.heap.size wA wb := Below.trans (Below.refl _ wA).drew (hbb.mono (by simp))
                  refine hK.out _ _ (fun _ => hbw) ?_
                  try simp only [Act.put, List.setIfInBounds_toArray, List.set_cons_zero, List.set_cons_succ]
                  refine wpAnyE_takeL (i := 7) (v := ?_) rfl (by kernel_rfl) (fun _ _ _ h => h) (Or.inl ⟨by rfl, ?_⟩) hbw ?_
                  rotate_left
                  · intro w hSw; (try dsimp only at hSw); obtain ⟨hcS, hfS⟩ := bcell hSw; clear hSw; go_simp; (try with_reducible rfl)
                  try simp only [Act.put, List.setIfInBounds_toArray, List.set_cons_zero, List.set_cons_succ]
                  refine wpAnyE_takeL (i := 8) (v := ?_) rfl (by kernel_rfl) (fun _ _ _ h => h) (Or.inl ⟨by rfl, ?_⟩) hbw ?_
                  rotate_left
                  · intro w hSw; (try dsimp only at hSw); obtain ⟨hcS, hfS⟩ := bcell hSw; clear hSw; go_simp; (try with_reducible rfl)
                  try simp only [Act.put, List.setIfInBounds_toArray, List.set_cons_zero, List.set_cons_succ]
                  refine wpAnyE_takeL (i := 9) (v := ?_) rfl (by kernel_rfl) (fun _ _ _ h => h) (Or.inl ⟨by rfl, ?_⟩) hbw ?_
                  rotate_left
                  · intro w hSw; (try dsimp only at hSw); obtain ⟨hcS, hfS⟩ := bcell hSw; clear hSw; go_simp; (try with_reducible rfl)
                  try simp only [Act.put, List.setIfInBounds_toArray, List.set_cons_zero, List.set_cons_succ]
                  refine wpAnyE_oneL (k := 10) (by kernel_rfl) rfl (fun K hK => ?_)
                  go_simp
                  have hbw2 : Below wA.heap.size wA (wb.alloc (.cells #[.int .i64 0, .int .i64 0] 30)) := hbw.alloc hbw.size _
                  have kB : Blk (wb.alloc (.cells #[.int .i64 0, .int .i64 0] 30)) wb.heap.size #[.int .i64 0, .int .i64 0] 30 := Blk.new _ rfl
                  have hBl := hbw.size
                  refine hK.out _ _ (fun _ => hbw2) ?_
                  try simp only [Act.put, List.setIfInBounds_toArray, List.set_cons_zero, List.set_cons_succ]
                  generalize wb.alloc (.cells #[.int .i64 0, .int .i64 0] 30) = wd at *
                  generalize wb.heap.size = B at *
                  clear hbw hbb
                  have hbw := hbw2
                  clear hbw2
                  refine wpAnyE_oneL (k := 11) (by kernel_rfl) rfl (fun K hK => ?_)
                  have cB := kB.cell
                  have fB := kB.free
                  have lB := kB.lt
                  go_simp
                  have hst : Below wA.heap.size wA ((wd.setCell ⟨B, 0, none⟩ (.int .i64 DN)).setCell ⟨B, 1, none⟩ (.int .i64 DD)) := (hbw.setCell hBl _).setCell hBl _
                  refine hK.out _ _ (fun _ => hst) ?_
                  try simp only [Act.put, List.setIfInBounds_toArray, List.set_cons_zero, List.set_cons_succ]
                  refine wpAnyE_oneL (k := 12) (by kernel_rfl) rfl (fun K hK => ?_)
                  go_simp
                  refine hK.out _ _ (fun h => absurd rfl h) ?_
                  refine wpAnyE_done (by kernel_rfl) ?_ _
                  clear hS
                  go_wp2
                  go_meet
                  exact ⟨B, rfl, rfl, Lib.hid kB.set2, hBl, Lib.hid hst⟩
                · go_simp
                  have hbw0 : Below wA.heap.size wA (wA.alloc (.cells #[.int .i64 0, .int .i64 0] 30)).drew := ((Below.refl _ wA).alloc (Nat.le_refl _) _).drew
                  have kB0 : Blk (wA.alloc (.cells #[.int .i64 0, .int .i64 0] 30)).drew wA.heap.size #[.int .i64 0, .int .i64 0] 30 := (Blk.new _ rfl).drew
                  refine hK.out _ _ (fun _ => hbw0) ?_
                  try simp only [Act.put, List.setIfInBounds_toArray, List.set_cons_zero, List.set_cons_succ]
                  generalize (wA.alloc (.cells #[.int .i64 0, .int .i64 0] 30)).drew = wd0 at *
                  have hBl := Nat.le_refl wA.heap.size
                  refine wpAnyE_oneL (k := 6) (by kernel_rfl) rfl (fun K hK => ?_)
                  go_simp
                  go_at_call 14
                  refine (HA1.out _).mono ?_
                  rintro e wb ⟨rfl, hbb⟩
                  have hbw : Below wA.heap.size wA wb := Below.trans hbw0 (hbb.mono hbw0.size)
                  have kB : Blk wb wA.heap.size #[.int .i64 0, .int .i64 0] 30 := Blk.by hbb kB0
                  clear hbb kB0
                  refine hK.out _ _ (fun _ => hbw) ?_
                  try simp only [Act.put, List.setIfInBounds_toArray, List.set_cons_zero, List.set_cons_succ]
                  refine wpAnyE_takeL (i := 7) (v := ?_) rfl (by kernel_rfl) (fun _ _ _ h => h) (Or.inl ⟨by rfl, ?_⟩) hbw ?_
                  rotate_left
                  · intro w hSw; (try dsimp only at hSw); obtain ⟨hcS, hfS⟩ := bcell hSw; clear hSw; go_simp; (try with_reducible rfl)
                  try simp only [Act.put, List.setIfInBounds_toArray, List.set_cons_zero, List.set_cons_succ]
                  refine wpAnyE_takeL (i := 8) (v := ?_) rfl (by kernel_rfl) (fun _ _ _ h => h) (Or.inl ⟨by rfl, ?_⟩) hbw ?_
                  rotate_left
                  · intro w hSw; (try dsimp only at hSw); obtain ⟨hcS, hfS⟩ := bcell hSw; clear hSw; go_simp; (try with_reducible rfl)
                  try simp only [Act.put, List.setIfInBounds_toArray, List.set_cons_zero, List.set_cons_succ]
                  refine wpAnyE_takeL (i := 9) (v := ?_) rfl (by kernel_rfl) (fun _ _ _ h => h) (Or.inl ⟨by rfl, ?_⟩) hbw ?_
                  rotate_left
                  · intro w hSw; (try dsimp only at hSw); obtain ⟨hcS, hfS⟩ := bcell hSw; clear hSw; go_simp; (try with_reducible rfl)
                  try simp only [Act.put, List.setIfInBounds_toArray, List.set_cons_zero, List.set_cons_succ]
                  refine wpAnyE_oneL (k := 11) (by kernel_rfl) rfl (fun K hK => ?_)
                  have cB := kB.cell
                  have fB := kB.free
                  have lB := kB.lt
                  go_simp
                  have hst : Below wA.heap.size wA ((wb.setCell ⟨wA.heap.size, 0, none⟩ (.int .i64 DN)).setCell ⟨wA.heap.size, 1, none⟩ (.int .i64 DD)) := (hbw.setCell hBl _).setCell hBl _
                  refine hK.out _ _ (fun _ => hst) ?_
                  try simp only [Act.put, List.setIfInBounds_toArray, List.set_cons_zero, List.set_cons_succ]
                  refine wpAnyE_oneL (k := 12) (by kernel_rfl) rfl (fun K hK => ?_)
                  go_simp
                  refine hK.out _ _ (fun h => absurd rfl h) ?_
                  refine wpAnyE_done (by kernel_rfl) ?_ _
                  clear hS
                  go_wp2
                  go_meet
                  exact ⟨wA.heap.size, rfl, rfl, Lib.hid kB.set2, hBl, Lib.hid hst⟩
              case rest =>
                obtain ⟨Q1, rfl, rfl, HKQ1, hlQ1, HBQ1⟩ := hcut
                obtain ⟨wB, rfl⟩ : ∃ z : World, z = wc := ⟨_, rfl⟩
                have hWwB : Below w5.heap.size w5 wB := below_on HBQ1.out hWwA
                have kGwB := Blk.by HBQ1.out kGwA
                have kPwB := Blk.by HBQ1.out kPwA
                have kQ1wB := HKQ1.out
                have hszQ1 := HBQ1.out.size
                clear cPwA lPwA cc0wA cc1wA lcwA
                have hszwB := hWwB.size
                have lvwB := Nat.lt_of_lt_of_le lv5 hszwB
                have cPwB := kPwB.cell
                have lPwB := kPwB.lt
                have cQ1wB := kQ1wB.cell
                have lQ1wB := kQ1wB.lt
                have vt0wB := cell_by' hWwB vt0
                have vt1wB := cell_by' hWwB vt1
                go_upto_region 20 with fail
                go_cut [16, 17] (fun sp sc wx => ∃ B : Nat, sp = .pointer (some ⟨B, 0, none⟩) ∧ sc = .int .i64 R2 ∧ Hid (Blk wx B #[.int .i64 LN, .int .i64 LD] 30) ∧ wB.heap.size ≤ B ∧ Hid (Below wB.heap.size wB wx))
                case first =>
                  have hS : (fun w' : World => Below wB.heap.size wB w') { wB with drawn := wB.drawn + 1 } := (Below.refl _ wB).drew
                  refine wp_region_any (by kernel_rfl) (wpAny_of_E (S := (fun w' : World => Below wB.heap.size wB w')) (l := 12) _ _ _ _ ?_)
                  change wpAnyE _ _ _ _ _ _ _ _ _ wB.drew
                  refine wpAnyE_takeL (i := 0) (v := ?_) rfl (by kernel_rfl) (fun _ _ _ h => h) (Or.inl ⟨by rfl, ?_⟩) hS ?_
                  rotate_left
                  · intro w hSw; (try dsimp only at hSw); obtain ⟨hcS, hfS⟩ := bcell hSw; clear hSw; go_simp; (try with_reducible rfl)
                  try simp only [Act.put, List.setIfInBounds_toArray, List.set_cons_zero, List.set_cons_succ]
                  refine wpAnyE_takeL (i := 1) (v := ?_) rfl (by kernel_rfl) (fun _ _ _ h => h) (Or.inl ⟨by rfl, ?_⟩) hS ?_
                  rotate_left
                  · intro w hSw; (try dsimp only at hSw); obtain ⟨hcS, hfS⟩ := bcell hSw; clear hSw; go_simp; (try with_reducible rfl)
                  try simp only [Act.put, List.setIfInBounds_toArray, List.set_cons_zero, List.set_cons_succ]
                  refine wpAnyE_takeL (i := 2) (v := ?_) rfl (by kernel_rfl) (fun _ _ _ h => h) (Or.inl ⟨by rfl, ?_⟩) hS ?_
                  rotate_left
                  · intro w hSw; (try dsimp only at hSw); obtain ⟨hcS, hfS⟩ := bcell hSw; clear hSw; go_simp; (try with_reducible rfl)
                  try simp only [Act.put, List.setIfInBounds_toArray, List.set_cons_zero, List.set_cons_succ]
                  refine wpAnyE_takeL (i := 3) (v := ?_) rfl (by kernel_rfl) (fun _ _ _ h => h) (Or.inl ⟨by rfl, ?_⟩) hS ?_
                  rotate_left
                  · intro w hSw; (try dsimp only at hSw); obtain ⟨hcS, hfS⟩ := bcell hSw; clear hSw; go_simp; (try with_reducible rfl)
                  try simp only [Act.put, List.setIfInBounds_toArray, List.set_cons_zero, List.set_cons_succ]
                  refine wpAnyE_takeL (i := 4) (v := ?_) rfl (by kernel_rfl) (fun _ _ _ h => h) (Or.inl ⟨by rfl, ?_⟩) hS ?_
                  rotate_left
                  · intro w hSw; (try dsimp only at hSw); obtain ⟨hcS, hfS⟩ := bcell hSw; clear hSw; go_simp; (try with_reducible rfl)
                  try simp only [Act.put, List.setIfInBounds_toArray, List.set_cons_zero, List.set_cons_succ]
                  refine wpAnyE_takeL (i := 5) (v := ?_) rfl (by kernel_rfl) (fun _ _ _ h => h) (Or.inl ⟨by rfl, ?_⟩) hS ?_
                  rotate_left
                  · intro w hSw; (try dsimp only at hSw); obtain ⟨hcS, hfS⟩ := bcell hSw; clear hSw; go_simp; (try with_reducible rfl)
                  try simp only [Act.put, List.setIfInBounds_toArray, List.set_cons_zero, List.set_cons_succ]
                  refine wpAnyE_twoL (k := 6) (k' := 10) (by kernel_rfl) rfl rfl (fun K hK => ?_) (fun K hK => ?_)
                  · go_simp
                    go_at_call 9
                    refine (HA2.out _).mono ?_
                    rintro e wb ⟨rfl, hbb⟩
                    have hbw : Below wB.heap.size wB wb := Below.trans (Below.refl _ wB).drew (hbb.mono (by simp))
                    refine hK.out _ _ (fun _ => hbw) ?_
                    try simp only [Act.put, List.setIfInBounds_toArray, List.set_cons_zero, List.set_cons_succ]
                    refine wpAnyE_takeL (i := 7) (v := ?_) rfl (by kernel_rfl) (fun _ _ _ h => h) (Or.inl ⟨by rfl, ?_⟩) hbw ?_
                    rotate_left
                    · intro w hSw; (try dsimp only at hSw); obtain ⟨hcS, hfS⟩ := bcell hSw; clear hSw; go_simp; (try with_reducible rfl)
                    try simp only [Act.put, List.setIfInBounds_toArray, List.set_cons_zero, List.set_cons_succ]
                    refine wpAnyE_takeL (i := 8) (v := ?_) rfl (by kernel_rfl) (fun _ _ _ h => h) (Or.inl ⟨by rfl, ?_⟩) hbw ?_
                    rotate_left
                    · intro w hSw; (try dsimp only at hSw); obtain ⟨hcS, hfS⟩ := bcell hSw; clear hSw; go_simp; (try with_reducible rfl)
                    try simp only [Act.put, List.setIfInBounds_toArray, List.set_cons_zero, List.set_cons_succ]
                    refine wpAnyE_takeL (i := 9) (v := ?_) rfl (by kernel_rfl) (fun _ _ _ h => h) (Or.inl ⟨by rfl, ?_⟩) hbw ?_
                    rotate_left
                    · intro w hSw; (try dsimp only at hSw); obtain ⟨hcS, hfS⟩ := bcell hSw; clear hSw; go_simp; (try with_reducible rfl)
                    try simp only [Act.put, List.setIfInBounds_toArray, List.set_cons_zero, List.set_cons_succ]
                    refine wpAnyE_oneL (k := 10) (by kernel_rfl) rfl (fun K hK => ?_)
                    go_simp
                    have hbw2 : Below wB.heap.size wB (wb.alloc (.cells #[.int .i64 0, .int .i64 0] 30)) := hbw.alloc hbw.size _
                    have kB : Blk (wb.alloc (.cells #[.int .i64 0, .int .i64 0] 30)) wb.heap.size #[.int .i64 0, .int .i64 0] 30 := Blk.new _ rfl
                    have hBl := hbw.size
                    refine hK.out _ _ (fun _ => hbw2) ?_
                    try simp only [Act.put, List.setIfInBounds_toArray, List.set_cons_zero, List.set_cons_succ]
                    generalize wb.alloc (.cells #[.int .i64 0, .int .i64 0] 30) = wd at *
                    generalize wb.heap.size = B at *
                    clear hbw hbb
                    have hbw := hbw2
                    clear hbw2
                    refine wpAnyE_oneL (k := 11) (by kernel_rfl) rfl (fun K hK => ?_)
                    have cB := kB.cell
                    have fB := kB.free
                    have lB := kB.lt
                    go_simp
                    have hst : Below wB.heap.size wB ((wd.setCell ⟨B, 0, none⟩ (.int .i64 LN)).setCell ⟨B, 1, none⟩ (.int .i64 LD)) := (hbw.setCell hBl _).setCell hBl _
                    refine hK.out _ _ (fun _ => hst) ?_
                    try simp only [Act.put, List.setIfInBounds_toArray, List.set_cons_zero, List.set_cons_succ]
                    refine wpAnyE_oneL (k := 12) (by kernel_rfl) rfl (fun K hK => ?_)
                    go_simp
                    refine hK.out _ _ (fun h => absurd rfl h) ?_
                    refine wpAnyE_done (by kernel_rfl) ?_ _
                    clear hS
                    go_wp2
                    go_meet
                    exact ⟨B, rfl, rfl, Lib.hid kB.set2, hBl, Lib.hid hst⟩
                  · go_simp
                    have hbw0 : Below wB.heap.size wB (wB.alloc (.cells #[.int .i64 0, .int .i64 0] 30)).drew := ((Below.refl _ wB).alloc (Nat.le_refl _) _).drew
                    have kB0 : Blk (wB.alloc (.cells #[.int .i64 0, .int .i64 0] 30)).drew wB.heap.size #[.int .i64 0, .int .i64 0] 30 := (Blk.new _ rfl).drew
                    refine hK.out _ _ (fun _ => hbw0) ?_
                    try simp only [Act.put, List.setIfInBounds_toArray, List.set_cons_zero, List.set_cons_succ]
                    generalize (wB.alloc (.cells #[.int .i64 0, .int .i64 0] 30)).drew = wd0 at *
                    have hBl := Nat.le_refl wB.heap.size
                    refine wpAnyE_oneL (k := 6) (by kernel_rfl) rfl (fun K hK => ?_)
                    go_simp
                    go_at_call 9
                    refine (HA2.out _).mono ?_
                    rintro e wb ⟨rfl, hbb⟩
                    have hbw : Below wB.heap.size wB wb := Below.trans hbw0 (hbb.mono hbw0.size)
                    have kB : Blk wb wB.heap.size #[.int .i64 0, .int .i64 0] 30 := Blk.by hbb kB0
                    clear hbb kB0
                    refine hK.out _ _ (fun _ => hbw) ?_
                    try simp only [Act.put, List.setIfInBounds_toArray, List.set_cons_zero, List.set_cons_succ]
                    refine wpAnyE_takeL (i := 7) (v := ?_) rfl (by kernel_rfl) (fun _ _ _ h => h) (Or.inl ⟨by rfl, ?_⟩) hbw ?_
                    rotate_left
                    · intro w hSw; (try dsimp only at hSw); obtain ⟨hcS, hfS⟩ := bcell hSw; clear hSw; go_simp; (try with_reducible rfl)
                    try simp only [Act.put, List.setIfInBounds_toArray, List.set_cons_zero, List.set_cons_succ]
                    refine wpAnyE_takeL (i := 8) (v := ?_) rfl (by kernel_rfl) (fun _ _ _ h => h) (Or.inl ⟨by rfl, ?_⟩) hbw ?_
                    rotate_left
                    · intro w hSw; (try dsimp only at hSw); obtain ⟨hcS, hfS⟩ := bcell hSw; clear hSw; go_simp; (try with_reducible rfl)
                    try simp only [Act.put, List.setIfInBounds_toArray, List.set_cons_zero, List.set_cons_succ]
                    refine wpAnyE_takeL (i := 9) (v := ?_) rfl (by kernel_rfl) (fun _ _ _ h => h) (Or.inl ⟨by rfl, ?_⟩) hbw ?_
                    rotate_left
                    · intro w hSw; (try dsimp only at hSw); obtain ⟨hcS, hfS⟩ := bcell hSw; clear hSw; go_simp; (try with_reducible rfl)
                    try simp only [Act.put, List.setIfInBounds_toArray, List.set_cons_zero, List.set_cons_succ]
                    refine wpAnyE_oneL (k := 11) (by kernel_rfl) rfl (fun K hK => ?_)
                    have cB := kB.cell
                    have fB := kB.free
                    have lB := kB.lt
                    go_simp
                    have hst : Below wB.heap.size wB ((wb.setCell ⟨wB.heap.size, 0, none⟩ (.int .i64 LN)).setCell ⟨wB.heap.size, 1, none⟩ (.int .i64 LD)) := (hbw.setCell hBl _).setCell hBl _
                    refine hK.out _ _ (fun _ => hst) ?_
                    try simp only [Act.put, List.setIfInBounds_toArray, List.set_cons_zero, List.set_cons_succ]
                    refine wpAnyE_oneL (k := 12) (by kernel_rfl) rfl (fun K hK => ?_)
                    go_simp
                    refine hK.out _ _ (fun h => absurd rfl h) ?_
                    refine wpAnyE_done (by kernel_rfl) ?_ _
                    clear hS
                    go_wp2
                    go_meet
                    exact ⟨wB.heap.size, rfl, rfl, Lib.hid kB.set2, hBl, Lib.hid hst⟩
                case rest =>
                  obtain ⟨Q2, rfl, rfl, HKQ2, hlQ2, HBQ2⟩ := hcut
                  obtain ⟨wC, rfl⟩ : ∃ z : World, z = wc := ⟨_, rfl⟩
                  have hWwC : Below w5.heap.size w5 wC := below_on HBQ2.out hWwB
                  have kGwC := Blk.by HBQ2.out kGwB
                  have kPwC := Blk.by HBQ2.out kPwB
                  have kQ1wC := Blk.by HBQ2.out kQ1wB
                  have kQ2wC := HKQ2.out
                  have hszQ2 := HBQ2.out.size
                  clear cPwB lPwB cQ1wB lQ1wB vt0wB vt1wB lvwB
                  have hszwC := hWwC.size
                  have lcwC := Nat.lt_of_lt_of_le lc5 hszwC
                  have cgs0wC := (kGwC.cell _).trans gs0
                  have cgs1wC := (kGwC.cell _).trans gs1
                  have cgt0wC := (kGwC.cell _).trans gt0
                  have cgt1wC := (kGwC.cell _).trans gt1
                  have lGwC := kGwC.lt
                  have cPwC := kPwC.cell
                  have lPwC := kPwC.lt
                  have cc0wC := cell_by' hWwC cc0
                  have cc1wC := cell_by' hWwC cc1
                  go_upto_region 21 with fail
                  go_cut [18, 19] (fun sp sc wx => ∃ B : Nat, sp = .pointer (some ⟨B, 0, none⟩) ∧ sc = .int .i64 R3 ∧ Hid (Blk wx B #[.int .i64 ON, .int .i64 OD] 30) ∧ wC.heap.size ≤ B ∧ Hid (Below wC.heap.size wC wx))
                  case first =>
                    have hS : (fun w' : World => Below wC.heap.size wC w') { wC with drawn := wC.drawn + 1 } := (Below.refl _ wC).drew
                    refine wp_region_any (by kernel_rfl) (wpAny_of_E (S := (fun w' : World => Below wC.heap.size wC w')) (l := 23) _ _ _ _ ?_)
                    change wpAnyE _ _ _ _ _ _ _ _ _ wC.drew
                    refine wpAnyE_takeL (i := 0) (v := ?_) rfl (by kernel_rfl) (fun _ _ _ h => h) (Or.inl ⟨by rfl, ?_⟩) hS ?_
                    rotate_left
                    · intro w hSw; (try dsimp only at hSw); obtain ⟨hcS, hfS⟩ := bcell hSw; clear hSw; go_simp; (try with_reducible rfl)
                    try simp only [Act.put, List.setIfInBounds_toArray, List.set_cons_zero, List.set_cons_succ]
                    refine wpAnyE_takeL (i := 1) (v := ?_) rfl (by kernel_rfl) (fun _ _ _ h => h) (Or.inl ⟨by rfl, ?_⟩) hS ?_
                    rotate_left
                    · intro w hSw; (try dsimp only at hSw); obtain ⟨hcS, hfS⟩ := bcell hSw; clear hSw; go_simp; (try with_reducible rfl)
                    try simp only [Act.put, List.setIfInBounds_toArray, List.set_cons_zero, List.set_cons_succ]
                    refine wpAnyE_takeL (i := 2) (v := ?_) rfl (by kernel_rfl) (fun _ _ _ h => h) (Or.inl ⟨by rfl, ?_⟩) hS ?_
                    rotate_left
                    · intro w hSw; (try dsimp only at hSw); obtain ⟨hcS, hfS⟩ := bcell hSw; clear hSw; go_simp; (try with_reducible rfl)
                    try simp only [Act.put, List.setIfInBounds_toArray, List.set_cons_zero, List.set_cons_succ]
                    refine wpAnyE_takeL (i := 3) (v := ?_) rfl (by kernel_rfl) (fun _ _ _ h => h) (Or.inl ⟨by rfl, ?_⟩) hS ?_
                    rotate_left
                    · intro w hSw; (try dsimp only at hSw); obtain ⟨hcS, hfS⟩ := bcell hSw; clear hSw; go_simp; (try with_reducible rfl)
                    try simp only [Act.put, List.setIfInBounds_toArray, List.set_cons_zero, List.set_cons_succ]
                    refine wpAnyE_takeL (i := 4) (v := ?_) rfl (by kernel_rfl) (fun _ _ _ h => h) (Or.inl ⟨by rfl, ?_⟩) hS ?_
                    rotate_left
                    · intro w hSw; (try dsimp only at hSw); obtain ⟨hcS, hfS⟩ := bcell hSw; clear hSw; go_simp; (try with_reducible rfl)
                    try simp only [Act.put, List.setIfInBounds_toArray, List.set_cons_zero, List.set_cons_succ]
                    refine wpAnyE_takeL (i := 5) (v := ?_) rfl (by kernel_rfl) (fun _ _ _ h => h) (Or.inl ⟨by rfl, ?_⟩) hS ?_
                    rotate_left
                    · intro w hSw; (try dsimp only at hSw); obtain ⟨hcS, hfS⟩ := bcell hSw; clear hSw; go_simp; (try with_reducible rfl)
                    try simp only [Act.put, List.setIfInBounds_toArray, List.set_cons_zero, List.set_cons_succ]
                    refine wpAnyE_takeL (i := 6) (v := ?_) rfl (by kernel_rfl) (fun _ _ _ h => h) (Or.inl ⟨by rfl, ?_⟩) hS ?_
                    rotate_left
                    · intro w hSw; (try dsimp only at hSw); obtain ⟨hcS, hfS⟩ := bcell hSw; clear hSw; go_simp; (try with_reducible rfl)
                    try simp only [Act.put, List.setIfInBounds_toArray, List.set_cons_zero, List.set_cons_succ]
                    refine wpAnyE_takeL (i := 7) (v := ?_) rfl (by kernel_rfl) (fun _ _ _ h => h) (Or.inl ⟨by rfl, ?_⟩) hS ?_
                    rotate_left
                    · intro w hSw; (try dsimp only at hSw); obtain ⟨hcS, hfS⟩ := bcell hSw; clear hSw; go_simp; (try with_reducible rfl)
                    try simp only [Act.put, List.setIfInBounds_toArray, List.set_cons_zero, List.set_cons_succ]
                    refine wpAnyE_takeL (i := 8) (v := ?_) rfl (by kernel_rfl) (fun _ _ _ h => h) (Or.inl ⟨by rfl, ?_⟩) hS ?_
                    rotate_left
                    · intro w hSw; (try dsimp only at hSw); obtain ⟨hcS, hfS⟩ := bcell hSw; clear hSw; go_simp; (try with_reducible rfl)
                    try simp only [Act.put, List.setIfInBounds_toArray, List.set_cons_zero, List.set_cons_succ]
                    refine wpAnyE_takeL (i := 9) (v := ?_) rfl (by kernel_rfl) (fun _ _ _ h => h) (Or.inl ⟨by rfl, ?_⟩) hS ?_
                    rotate_left
                    · intro w hSw; (try dsimp only at hSw); obtain ⟨hcS, hfS⟩ := bcell hSw; clear hSw; go_simp; (try with_reducible rfl)
                    try simp only [Act.put, List.setIfInBounds_toArray, List.set_cons_zero, List.set_cons_succ]
                    refine wpAnyE_takeL (i := 10) (v := ?_) rfl (by kernel_rfl) (fun _ _ _ h => h) (Or.inl ⟨by rfl, ?_⟩) hS ?_
                    rotate_left
                    · intro w hSw; (try dsimp only at hSw); obtain ⟨hcS, hfS⟩ := bcell hSw; clear hSw; go_simp; (try with_reducible rfl)
                    try simp only [Act.put, List.setIfInBounds_toArray, List.set_cons_zero, List.set_cons_succ]
                    refine wpAnyE_takeL (i := 11) (v := ?_) rfl (by kernel_rfl) (fun _ _ _ h => h) (Or.inl ⟨by rfl, ?_⟩) hS ?_
                    rotate_left
                    · intro w hSw; (try dsimp only at hSw); obtain ⟨hcS, hfS⟩ := bcell hSw; clear hSw; go_simp; (try with_reducible rfl)
                    try simp only [Act.put, List.setIfInBounds_toArray, List.set_cons_zero, List.set_cons_succ]
                    refine wpAnyE_takeL (i := 12) (v := ?_) rfl (by kernel_rfl) (fun _ _ _ h => h) (Or.inl ⟨by rfl, ?_⟩) hS ?_
                    rotate_left
                    · intro w hSw; (try dsimp only at hSw); obtain ⟨hcS, hfS⟩ := bcell hSw; clear hSw; go_simp; (try with_reducible rfl)
                    try simp only [Act.put, List.setIfInBounds_toArray, List.set_cons_zero, List.set_cons_succ]
                    refine wpAnyE_takeL (i := 13) (v := ?_) rfl (by kernel_rfl) (fun _ _ _ h => h) (Or.inl ⟨by rfl, ?_⟩) hS ?_
                    rotate_left
                    · intro w hSw; (try dsimp only at hSw); obtain ⟨hcS, hfS⟩ := bcell hSw; clear hSw; go_simp; (try with_reducible rfl)
                    try simp only [Act.put, List.setIfInBounds_toArray, List.set_cons_zero, List.set_cons_succ]
                    refine wpAnyE_takeL (i := 14) (v := ?_) rfl (by kernel_rfl) (fun _ _ _ h => h) (Or.inl ⟨by rfl, ?_⟩) hS ?_
                    rotate_left
                    · intro w hSw; (try dsimp only at hSw); obtain ⟨hcS, hfS⟩ := bcell hSw; clear hSw; go_simp; (try with_reducible rfl)
                    try simp only [Act.put, List.setIfInBounds_toArray, List.set_cons_zero, List.set_cons_succ]
                    refine wpAnyE_takeL (i := 15) (v := ?_) rfl (by kernel_rfl) (fun _ _ _ h => h) (Or.inl ⟨by rfl, ?_⟩) hS ?_
                    rotate_left
                    · intro w hSw; (try dsimp only at hSw); obtain ⟨hcS, hfS⟩ := bcell hSw; clear hSw; go_simp; (try with_reducible rfl)
                    try simp only [Act.put, List.setIfInBounds_toArray, List.set_cons_zero, List.set_cons_succ]
                    refine wpAnyE_takeL (i := 16) (v := ?_) rfl (by kernel_rfl) (fun _ _ _ h => h) (Or.inl ⟨by rfl, ?_⟩) hS ?_
                    rotate_left
                    · intro w hSw; (try dsimp only at hSw); obtain ⟨hcS, hfS⟩ := bcell hSw; clear hSw; go_simp; (try with_reducible rfl)
                    try simp only [Act.put, List.setIfInBounds_toArray, List.set_cons_zero, List.set_cons_succ]
                    refine wpAnyE_twoL (k := 17) (k' := 21) (by kernel_rfl) rfl rfl (fun K hK => ?_) (fun K hK => ?_)
                    · go_simp
                      go_at_call 9
                      refine (HA3.out _).mono ?_
                      rintro e wb ⟨rfl, hbb⟩
                      have hbw : Below wC.heap.size wC wb := Below.trans (Below.refl _ wC).drew (hbb.mono (by simp))
                      refine hK.out _ _ (fun _ => hbw) ?_
                      try simp only [Act.put, List.setIfInBounds_toArray, List.set_cons_zero, List.set_cons_succ]
                      refine wpAnyE_takeL (i := 18) (v := ?_) rfl (by kernel_rfl) (fun _ _ _ h => h) (Or.inl ⟨by rfl, ?_⟩) hbw ?_
                      rotate_left
                      · intro w hSw; (try dsimp only at hSw); obtain ⟨hcS, hfS⟩ := bcell hSw; clear hSw; go_simp; (try with_reducible rfl)
                      try simp only [Act.put, List.setIfInBounds_toArray, List.set_cons_zero, List.set_cons_succ]
                      refine wpAnyE_takeL (i := 19) (v := ?_) rfl (by kernel_rfl) (fun _ _ _ h => h) (Or.inl ⟨by rfl, ?_⟩) hbw ?_
                      rotate_left
                      · intro w hSw; (try dsimp only at hSw); obtain ⟨hcS, hfS⟩ := bcell hSw; clear hSw; go_simp; (try with_reducible rfl)
                      try simp only [Act.put, List.setIfInBounds_toArray, List.set_cons_zero, List.set_cons_succ]
                      refine wpAnyE_takeL (i := 20) (v := ?_) rfl (by kernel_rfl) (fun _ _ _ h => h) (Or.inl ⟨by rfl, ?_⟩) hbw ?_
                      rotate_left
                      · intro w hSw; (try dsimp only at hSw); obtain ⟨hcS, hfS⟩ := bcell hSw; clear hSw; go_simp; (try with_reducible rfl)
                      try simp only [Act.put, List.setIfInBounds_toArray, List.set_cons_zero, List.set_cons_succ]
                      refine wpAnyE_oneL (k := 21) (by kernel_rfl) rfl (fun K hK => ?_)
                      go_simp
                      have hbw2 : Below wC.heap.size wC (wb.alloc (.cells #[.int .i64 0, .int .i64 0] 30)) := hbw.alloc hbw.size _
                      have kB : Blk (wb.alloc (.cells #[.int .i64 0, .int .i64 0] 30)) wb.heap.size #[.int .i64 0, .int .i64 0] 30 := Blk.new _ rfl
                      have hBl := hbw.size
                      refine hK.out _ _ (fun _ => hbw2) ?_
                      try simp only [Act.put, List.setIfInBounds_toArray, List.set_cons_zero, List.set_cons_succ]
                      generalize wb.alloc (.cells #[.int .i64 0, .int .i64 0] 30) = wd at *
                      generalize wb.heap.size = B at *
                      clear hbw hbb
                      have hbw := hbw2
                      clear hbw2
                      refine wpAnyE_oneL (k := 22) (by kernel_rfl) rfl (fun K hK => ?_)
                      have cB := kB.cell
                      have fB := kB.free
                      have lB := kB.lt
                      go_simp
                      have hst : Below wC.heap.size wC ((wd.setCell ⟨B, 0, none⟩ (.int .i64 ON)).setCell ⟨B, 1, none⟩ (.int .i64 OD)) := (hbw.setCell hBl _).setCell hBl _
                      refine hK.out _ _ (fun _ => hst) ?_
                      try simp only [Act.put, List.setIfInBounds_toArray, List.set_cons_zero, List.set_cons_succ]
                      refine wpAnyE_oneL (k := 23) (by kernel_rfl) rfl (fun K hK => ?_)
                      go_simp
                      refine hK.out _ _ (fun h => absurd rfl h) ?_
                      refine wpAnyE_done (by kernel_rfl) ?_ _
                      clear hS
                      go_wp2
                      go_meet
                      exact ⟨B, rfl, rfl, Lib.hid kB.set2, hBl, Lib.hid hst⟩
                    · go_simp
                      have hbw0 : Below wC.heap.size wC (wC.alloc (.cells #[.int .i64 0, .int .i64 0] 30)).drew := ((Below.refl _ wC).alloc (Nat.le_refl _) _).drew
                      have kB0 : Blk (wC.alloc (.cells #[.int .i64 0, .int .i64 0] 30)).drew wC.heap.size #[.int .i64 0, .int .i64 0] 30 := (Blk.new _ rfl).drew
                      refine hK.out _ _ (fun _ => hbw0) ?_
                      try simp only [Act.put, List.setIfInBounds_toArray, List.set_cons_zero, List.set_cons_succ]
                      generalize (wC.alloc (.cells #[.int .i64 0, .int .i64 0] 30)).drew = wd0 at *
                      have hBl := Nat.le_refl wC.heap.size
                      refine wpAnyE_oneL (k := 17) (by kernel_rfl) rfl (fun K hK => ?_)
                      go_simp
                      go_at_call 9
                      refine (HA3.out _).mono ?_
                      rintro e wb ⟨rfl, hbb⟩
                      have hbw : Below wC.heap.size wC wb := Below.trans hbw0 (hbb.mono hbw0.size)
                      have kB : Blk wb wC.heap.size #[.int .i64 0, .int .i64 0] 30 := Blk.by hbb kB0
                      clear hbb kB0
                      refine hK.out _ _ (fun _ => hbw) ?_
                      try simp only [Act.put, List.setIfInBounds_toArray, List.set_cons_zero, List.set_cons_succ]
                      refine wpAnyE_takeL (i := 18) (v := ?_) rfl (by kernel_rfl) (fun _ _ _ h => h) (Or.inl ⟨by rfl, ?_⟩) hbw ?_
                      rotate_left
                      · intro w hSw; (try dsimp only at hSw); obtain ⟨hcS, hfS⟩ := bcell hSw; clear hSw; go_simp; (try with_reducible rfl)
                      try simp only [Act.put, List.setIfInBounds_toArray, List.set_cons_zero, List.set_cons_succ]
                      refine wpAnyE_takeL (i := 19) (v := ?_) rfl (by kernel_rfl) (fun _ _ _ h => h) (Or.inl ⟨by rfl, ?_⟩) hbw ?_
                      rotate_left
                      · intro w hSw; (try dsimp only at hSw); obtain ⟨hcS, hfS⟩ := bcell hSw; clear hSw; go_simp; (try with_reducible rfl)
                      try simp only [Act.put, List.setIfInBounds_toArray, List.set_cons_zero, List.set_cons_succ]
                      refine wpAnyE_takeL (i := 20) (v := ?_) rfl (by kernel_rfl) (fun _ _ _ h => h) (Or.inl ⟨by rfl, ?_⟩) hbw ?_
                      rotate_left
                      · intro w hSw; (try dsimp only at hSw); obtain ⟨hcS, hfS⟩ := bcell hSw; clear hSw; go_simp; (try with_reducible rfl)
                      try simp only [Act.put, List.setIfInBounds_toArray, List.set_cons_zero, List.set_cons_succ]
                      refine wpAnyE_oneL (k := 22) (by kernel_rfl) rfl (fun K hK => ?_)
                      have cB := kB.cell
                      have fB := kB.free
                      have lB := kB.lt
                      go_simp
                      have hst : Below wC.heap.size wC ((wb.setCell ⟨wC.heap.size, 0, none⟩ (.int .i64 ON)).setCell ⟨wC.heap.size, 1, none⟩ (.int .i64 OD)) := (hbw.setCell hBl _).setCell hBl _
                      refine hK.out _ _ (fun _ => hst) ?_
                      try simp only [Act.put, List.setIfInBounds_toArray, List.set_cons_zero, List.set_cons_succ]
                      refine wpAnyE_oneL (k := 23) (by kernel_rfl) rfl (fun K hK => ?_)
                      go_simp
                      refine hK.out _ _ (fun h => absurd rfl h) ?_
                      refine wpAnyE_done (by kernel_rfl) ?_ _
                      clear hS
                      go_wp2
                      go_meet
                      exact ⟨wC.heap.size, rfl, rfl, Lib.hid kB.set2, hBl, Lib.hid hst⟩
                  case rest =>
                    obtain ⟨Q3, rfl, rfl, HKQ3, hlQ3, HBQ3⟩ := hcut
                    obtain ⟨wD, rfl⟩ : ∃ z : World, z = wc := ⟨_, rfl⟩
                    have hWwD : Below w5.heap.size w5 wD := below_on HBQ3.out hWwC
                    have kGwD := Blk.by HBQ3.out kGwC
                    have kPwD := Blk.by HBQ3.out kPwC
                    have kQ1wD := Blk.by HBQ3.out kQ1wC
                    have kQ2wD := Blk.by HBQ3.out kQ2wC
                    have kQ3wD := HKQ3.out
                    have hszQ3 := HBQ3.out.size
                    clear cgs0wC cgs1wC cgt0wC cgt1wC lGwC cPwC lPwC cc0wC cc1wC lcwC
                    have hszwD := hWwD.size
                    have lcwD := Nat.lt_of_lt_of_le lc5 hszwD
                    have cgs0wD := (kGwD.cell _).trans gs0
                    have cgs1wD := (kGwD.cell _).trans gs1
                    have cgt0wD := (kGwD.cell _).trans gt0
                    have cgt1wD := (kGwD.cell _).trans gt1
                    have lGwD := kGwD.lt
                    have cPwD := kPwD.cell
                    have lPwD := kPwD.lt
                    have cc0wD := cell_by' hWwD cc0
                    have cc1wD := cell_by' hWwD cc1
                    go_upto_region 22 with fail
                    go_cut [20, 21] (fun sp sc wx => ∃ B : Nat, sp = .pointer (some ⟨B, 0, none⟩) ∧ sc = .int .i64 R4 ∧ Hid (Blk wx B #[.int .i64 IN, .int .i64 ID] 30) ∧ wD.heap.size ≤ B ∧ Hid (Below wD.heap.size wD wx))
                    case first =>
                      have hS : (fun w' : World => Below wD.heap.size wD w') { wD with drawn := wD.drawn + 1 } := (Below.refl _ wD).drew
                      refine wp_region_any (by kernel_rfl) (wpAny_of_E (S := (fun w' : World => Below wD.heap.size wD w')) (l := 15) _ _ _ _ ?_)
                      change wpAnyE _ _ _ _ _ _ _ _ _ wD.drew
                      refine wpAnyE_takeL (i := 0) (v := ?_) rfl (by kernel_rfl) (fun _ _ _ h => h) (Or.inl ⟨by rfl, ?_⟩) hS ?_
                      rotate_left
                      · intro w hSw; (try dsimp only at hSw); obtain ⟨hcS, hfS⟩ := bcell hSw; clear hSw; go_simp; (try with_reducible rfl)
                      try simp only [Act.put, List.setIfInBounds_toArray, List.set_cons_zero, List.set_cons_succ]
                      refine wpAnyE_takeL (i := 1) (v := ?_) rfl (by kernel_rfl) (fun _ _ _ h => h) (Or.inl ⟨by rfl, ?_⟩) hS ?_
                      rotate_left
                      · intro w hSw; (try dsimp only at hSw); obtain ⟨hcS, hfS⟩ := bcell hSw; clear hSw; go_simp; (try with_reducible rfl)
                      try simp only [Act.put, List.setIfInBounds_toArray, List.set_cons_zero, List.set_cons_succ]
                      refine wpAnyE_takeL (i := 2) (v := ?_) rfl (by kernel_rfl) (fun _ _ _ h => h) (Or.inl ⟨by rfl, ?_⟩) hS ?_
                      rotate_left
                      · intro w hSw; (try dsimp only at hSw); obtain ⟨hcS, hfS⟩ := bcell hSw; clear hSw; go_simp; (try with_reducible rfl)
                      try simp only [Act.put, List.setIfInBounds_toArray, List.set_cons_zero, List.set_cons_succ]
                      refine wpAnyE_takeL (i := 3) (v := ?_) rfl (by kernel_rfl) (fun _ _ _ h => h) (Or.inl ⟨by rfl, ?_⟩) hS ?_
                      rotate_left
                      · intro w hSw; (try dsimp only at hSw); obtain ⟨hcS, hfS⟩ := bcell hSw; clear hSw; go_simp; (try with_reducible rfl)
                      try simp only [Act.put, List.setIfInBounds_toArray, List.set_cons_zero, List.set_cons_succ]
                      refine wpAnyE_takeL (i := 4) (v := ?_) rfl (by kernel_rfl) (fun _ _ _ h => h) (Or.inl ⟨by rfl, ?_⟩) hS ?_
                      rotate_left
                      · intro w hSw; (try dsimp only at hSw); obtain ⟨hcS, hfS⟩ := bcell hSw; clear hSw; go_simp; (try with_reducible rfl)
                      try simp only [Act.put, List.setIfInBounds_toArray, List.set_cons_zero, List.set_cons_succ]
                      refine wpAnyE_takeL (i := 5) (v := ?_) rfl (by kernel_rfl) (fun _ _ _ h => h) (Or.inl ⟨by rfl, ?_⟩) hS ?_
                      rotate_left
                      · intro w hSw; (try dsimp only at hSw); obtain ⟨hcS, hfS⟩ := bcell hSw; clear hSw; go_simp; (try with_reducible rfl)
                      try simp only [Act.put, List.setIfInBounds_toArray, List.set_cons_zero, List.set_cons_succ]
                      refine wpAnyE_takeL (i := 6) (v := ?_) rfl (by kernel_rfl) (fun _ _ _ h => h) (Or.inl ⟨by rfl, ?_⟩) hS ?_
                      rotate_left
                      · intro w hSw; (try dsimp only at hSw); obtain ⟨hcS, hfS⟩ := bcell hSw; clear hSw; go_simp; (try with_reducible rfl)
                      try simp only [Act.put, List.setIfInBounds_toArray, List.set_cons_zero, List.set_cons_succ]
                      refine wpAnyE_takeL (i := 7) (v := ?_) rfl (by kernel_rfl) (fun _ _ _ h => h) (Or.inl ⟨by rfl, ?_⟩) hS ?_
                      rotate_left
                      · intro w hSw; (try dsimp only at hSw); obtain ⟨hcS, hfS⟩ := bcell hSw; clear hSw; go_simp; (try with_reducible rfl)
                      try simp only [Act.put, List.setIfInBounds_toArray, List.set_cons_zero, List.set_cons_succ]
                      refine wpAnyE_takeL (i := 8) (v := ?_) rfl (by kernel_rfl) (fun _ _ _ h => h) (Or.inl ⟨by rfl, ?_⟩) hS ?_
                      rotate_left
                      · intro w hSw; (try dsimp only at hSw); obtain ⟨hcS, hfS⟩ := bcell hSw; clear hSw; go_simp; (try with_reducible rfl)
                      try simp only [Act.put, List.setIfInBounds_toArray, List.set_cons_zero, List.set_cons_succ]
                      refine wpAnyE_twoL (k := 9) (k' := 13) (by kernel_rfl) rfl rfl (fun K hK => ?_) (fun K hK => ?_)
                      · go_simp
                        go_at_call 9
                        refine (HA4.out _).mono ?_
                        rintro e wb ⟨rfl, hbb⟩
                        have hbw : Below wD.heap.size wD wb := Below.trans (Below.refl _ wD).drew (hbb.mono (by simp))
                        refine hK.out _ _ (fun _ => hbw) ?_
                        try simp only [Act.put, List.setIfInBounds_toArray, List.set_cons_zero, List.set_cons_succ]
                        refine wpAnyE_takeL (i := 10) (v := ?_) rfl (by kernel_rfl) (fun _ _ _ h => h) (Or.inl ⟨by rfl, ?_⟩) hbw ?_
                        rotate_left
                        · intro w hSw; (try dsimp only at hSw); obtain ⟨hcS, hfS⟩ := bcell hSw; clear hSw; go_simp; (try with_reducible rfl)
                        try simp only [Act.put, List.setIfInBounds_toArray, List.set_cons_zero, List.set_cons_succ]
                        refine wpAnyE_takeL (i := 11) (v := ?_) rfl (by kernel_rfl) (fun _ _ _ h => h) (Or.inl ⟨by rfl, ?_⟩) hbw ?_
                        rotate_left
                        · intro w hSw; (try dsimp only at hSw); obtain ⟨hcS, hfS⟩ := bcell hSw; clear hSw; go_simp; (try with_reducible rfl)
                        try simp only [Act.put, List.setIfInBounds_toArray, List.set_cons_zero, List.set_cons_succ]
                        refine wpAnyE_takeL (i := 12) (v := ?_) rfl (by kernel_rfl) (fun _ _ _ h => h) (Or.inl ⟨by rfl, ?_⟩) hbw ?_
                        rotate_left
                        · intro w hSw; (try dsimp only at hSw); obtain ⟨hcS, hfS⟩ := bcell hSw; clear hSw; go_simp; (try with_reducible rfl)
                        try simp only [Act.put, List.setIfInBounds_toArray, List.set_cons_zero, List.set_cons_succ]
                        refine wpAnyE_oneL (k := 13) (by kernel_rfl) rfl (fun K hK => ?_)
                        go_simp
                        have hbw2 : Below wD.heap.size wD (wb.alloc (.cells #[.int .i64 0, .int .i64 0] 30)) := hbw.alloc hbw.size _
                        have kB : Blk (wb.alloc (.cells #[.int .i64 0, .int .i64 0] 30)) wb.heap.size #[.int .i64 0, .int .i64 0] 30 := Blk.new _ rfl
                        have hBl := hbw.size
                        refine hK.out _ _ (fun _ => hbw2) ?_
                        try simp only [Act.put, List.setIfInBounds_toArray, List.set_cons_zero, List.set_cons_succ]
                        generalize wb.alloc (.cells #[.int .i64 0, .int .i64 0] 30) = wd at *
                        generalize wb.heap.size = B at *
                        clear hbw hbb
                        have hbw := hbw2
                        clear hbw2
                        refine wpAnyE_oneL (k := 14) (by kernel_rfl) rfl (fun K hK => ?_)
                        have cB := kB.cell
                        have fB := kB.free
                        have lB := kB.lt
                        go_simp
                        have hst : Below wD.heap.size wD ((wd.setCell ⟨B, 0, none⟩ (.int .i64 IN)).setCell ⟨B, 1, none⟩ (.int .i64 ID)) := (hbw.setCell hBl _).setCell hBl _
                        refine hK.out _ _ (fun _ => hst) ?_
                        try simp only [Act.put, List.setIfInBounds_toArray, List.set_cons_zero, List.set_cons_succ]
                        refine wpAnyE_oneL (k := 15) (by kernel_rfl) rfl (fun K hK => ?_)
                        go_simp
                        refine hK.out _ _ (fun h => absurd rfl h) ?_
                        refine wpAnyE_done (by kernel_rfl) ?_ _
                        clear hS
                        go_wp2
                        go_meet
                        exact ⟨B, rfl, rfl, Lib.hid kB.set2, hBl, Lib.hid hst⟩
                      · go_simp
                        have hbw0 : Below wD.heap.size wD (wD.alloc (.cells #[.int .i64 0, .int .i64 0] 30)).drew := ((Below.refl _ wD).alloc (Nat.le_refl _) _).drew
                        have kB0 : Blk (wD.alloc (.cells #[.int .i64 0, .int .i64 0] 30)).drew wD.heap.size #[.int .i64 0, .int .i64 0] 30 := (Blk.new _ rfl).drew
                        refine hK.out _ _ (fun _ => hbw0) ?_
                        try simp only [Act.put, List.setIfInBounds_toArray, List.set_cons_zero, List.set_cons_succ]
                        generalize (wD.alloc (.cells #[.int .i64 0, .int .i64 0] 30)).drew = wd0 at *
                        have hBl := Nat.le_refl wD.heap.size
                        refine wpAnyE_oneL (k := 9) (by kernel_rfl) rfl (fun K hK => ?_)
                        go_simp
                        go_at_call 9
                        refine (HA4.out _).mono ?_
                        rintro e wb ⟨rfl, hbb⟩
                        have hbw : Below wD.heap.size wD wb := Below.trans hbw0 (hbb.mono hbw0.size)
                        have kB : Blk wb wD.heap.size #[.int .i64 0, .int .i64 0] 30 := Blk.by hbb kB0
                        clear hbb kB0
                        refine hK.out _ _ (fun _ => hbw) ?_
                        try simp only [Act.put, List.setIfInBounds_toArray, List.set_cons_zero, List.set_cons_succ]
                        refine wpAnyE_takeL (i := 10) (v := ?_) rfl (by kernel_rfl) (fun _ _ _ h => h) (Or.inl ⟨by rfl, ?_⟩) hbw ?_
                        rotate_left
                        · intro w hSw; (try dsimp only at hSw); obtain ⟨hcS, hfS⟩ := bcell hSw; clear hSw; go_simp; (try with_reducible rfl)
                        try simp only [Act.put, List.setIfInBounds_toArray, List.set_cons_zero, List.set_cons_succ]
                        refine wpAnyE_takeL (i := 11) (v := ?_) rfl (by kernel_rfl) (fun _ _ _ h => h) (Or.inl ⟨by rfl, ?_⟩) hbw ?_
                        rotate_left
                        · intro w hSw; (try dsimp only at hSw); obtain ⟨hcS, hfS⟩ := bcell hSw; clear hSw; go_simp; (try with_reducible rfl)
                        try simp only [Act.put, List.setIfInBounds_toArray, List.set_cons_zero, List.set_cons_succ]
                        refine wpAnyE_takeL (i := 12) (v := ?_) rfl (by kernel_rfl) (fun _ _ _ h => h) (Or.inl ⟨by rfl, ?_⟩) hbw ?_
                        rotate_left
                        · intro w hSw; (try dsimp only at hSw); obtain ⟨hcS, hfS⟩ := bcell hSw; clear hSw; go_simp; (try with_reducible rfl)
                        try simp only [Act.put, List.setIfInBounds_toArray, List.set_cons_zero, List.set_cons_succ]
                        refine wpAnyE_oneL (k := 14) (by kernel_rfl) rfl (fun K hK => ?_)
                        have cB := kB.cell
                        have fB := kB.free
                        have lB := kB.lt
                        go_simp
                        have hst : Below wD.heap.size wD ((wb.setCell ⟨wD.heap.size, 0, none⟩ (.int .i64 IN)).setCell ⟨wD.heap.size, 1, none⟩ (.int .i64 ID)) := (hbw.setCell hBl _).setCell hBl _
                        refine hK.out _ _ (fun _ => hst) ?_
                        try simp only [Act.put, List.setIfInBounds_toArray, List.set_cons_zero, List.set_cons_succ]
                        refine wpAnyE_oneL (k := 15) (by kernel_rfl) rfl (fun K hK => ?_)
                        go_simp
                        refine hK.out _ _ (fun h => absurd rfl h) ?_
                        refine wpAnyE_done (by kernel_rfl) ?_ _
                        clear hS
                        go_wp2
                        go_meet
                        exact ⟨wD.heap.size, rfl, rfl, Lib.hid kB.set2, hBl, Lib.hid hst⟩
                    case rest =>
                      obtain ⟨Q4, rfl, rfl, HKQ4, hlQ4, HBQ4⟩ := hcut
                      obtain ⟨wE, rfl⟩ : ∃ z : World, z = wc := ⟨_, rfl⟩
                      have hWwE : Below w5.heap.size w5 wE := below_on HBQ4.out hWwD
                      have kGwE := Blk.by HBQ4.out kGwD
                      have kPwE := Blk.by HBQ4.out kPwD
                      have kQ1wE := Blk.by HBQ4.out kQ1wD
                      have kQ2wE := Blk.by HBQ4.out kQ2wD
                      have kQ3wE := Blk.by HBQ4.out kQ3wD
                      have kQ4wE := HKQ4.out
                      have hszQ4 := HBQ4.out.size
                      clear cgs0wD cgs1wD cgt0wD cgt1wD lGwD cPwD lPwD cc0wD cc1wD lcwD
                      have hszwE := hWwE.size
                      have lvwE := Nat.lt_of_lt_of_le lv5 hszwE
                      have cgs0wE := (kGwE.cell _).trans gs0
                      have cgs1wE := (kGwE.cell _).trans gs1
                      have cgt0wE := (kGwE.cell _).trans gt0
                      have cgt1wE := (kGwE.cell _).trans gt1
                      have lGwE := kGwE.lt
                      have cPwE := kPwE.cell
                      have lPwE := kPwE.lt
                      have cQ2wE := kQ2wE.cell
                      have lQ2wE := kQ2wE.lt
                      have cQ3wE := kQ3wE.cell
                      have lQ3wE := kQ3wE.lt
                      have cQ4wE := kQ4wE.cell
                      have lQ4wE := kQ4wE.lt
                      have vs0wE := cell_by' hWwE vs0
                      have vs1wE := cell_by' hWwE vs1
                      have fGwE := kGwE.free
                      have hPg : ¬ P = g := by omega
                      have hgP' : ¬ g = P := by omega
                      have hg3 : ¬ Q3 = g := by omega
                      have hg4 : ¬ Q4 = g := by omega
                      have hg2 : ¬ Q2 = g := by omega
                      have hbE : Below w.heap.size w wE := below_on hWwE hb5w
                      have lvwE' := lvwE
                      obtain ⟨st1, st3, st4⟩ := HSTEP.out
                      have HF := HFL.out
                      rcases st1 with h1 | ⟨h1, st2⟩
                      · subst h1
                        go_wp2
                        go_ret
                        exact ⟨rfl, hbE⟩
                      subst h1
                      rcases st2 with h1 | ⟨h1, h2, h3⟩
                      · subst h1
                        go_wp2
                        go_ret
                        exact ⟨rfl, hbE⟩
                      subst h1 h2 h3
                      rcases st3 with h1 | ⟨h1, o1, o2⟩
                      · subst h1
                        go_wp2
                        go_ret
                        exact ⟨rfl, hbE⟩
                      subst h1
                      rcases st4 with h1 | ⟨h1, i1, i2⟩
                      · subst h1
                        go_wp2
                        go_ret
                        exact ⟨rfl, hbE⟩
                      subst h1
                      have HNEW := Lib.hid (SumsAt.put (F' := fun u => flow (fun r => QQ r * r.den) (x.rs.take (i + 1)) u) (o1 := ON) (o2 := OD) (i1 := IN) (i2 := ID) HS'.out hsk htk hst (by rw [HFL.out.2.1]; unfold rtOf; rw [o1, o2]) (by rw [HFL.out.2.2]; unfold rtOf; rw [i1, i2]) (fun u h1 h2 => HFL.out.1 u h1 h2) (by have := HOB.out; omega) (by have := HIB.out; omega))
                      have HEW := Lib.hid kGwE
                      have HBE := Lib.hid hWwE
                      clear HF o1 o2 i1 i2 HS' HFL HOB HIB HSTEP kGwE hWwE
                      go_wp2
                      go_quiet (fail)
                      go_wp2
                      exact ⟨⟨i + 1, _, _, by go_num, by omega, Lib.hid (((((HEW.out.drewN nq).set (s * 2) (.int .i64 ON)).set (s * 2 + 1) (.int .i64 OD)).set (t * 2) (.int .i64 IN)).set (t * 2 + 1) (.int .i64 ID)), HNEW, ((((below_drewN HBE.out nq).setCell hg1 _).setCell hg1 _).setCell hg1 _).setCell hg1 _⟩, by simp [intOf]; omega⟩
            · obtain rfl : i = LC := by omega
              have hii : ¬ (i : Int) < (i : Int) := by omega
              have htk : x.rs.take i = x.rs := List.take_of_length_le (by rw [HLn.out]; omega)
              have hz : ∀ u, u < k → zs[u]? = some ⟨dueK p q u, 1⟩ := fun u hu => by
                have h := HS.out.2.2.2.1 u hu
                dsimp only at h
                rw [htk, HFA.out u, red_int _ HTp.out] at h
                exact h
              have HZ := Lib.hid (fun u (hu : u < k) => HS.out.2.2.1 u _ (hz u hu))
              have cT0 : wr.cell? ⟨T, 0, none⟩ = some (.int .i64 (k : Int)) := cell_by' hb (kT5.cell 0)
              have hbs := hb.size
              have lT : T < wr.heap.size := by omega
              have lG := HG.out.lt
              have hbW : Below w.heap.size w wr := below_on hb hb5w
              clear htk hz hlt hi
              go_wp2
              go_loopw [22] (fun z wr3 => ∃ u : Nat, z = .int .i64 (u : Int) ∧ u ≤ k ∧ Below wr.heap.size wr wr3) (fun z _ => k - (intOf z).toNat)
              case atStart => exact ⟨0, by go_num, Nat.zero_le _, (by ((repeat (first | (with_reducible exact Below.refl _ _) | (with_reducible refine below_drewN ?_ _) | (with_reducible refine Below.drew ?_) | (with_reducible refine below_al ?_ _) | (with_reducible refine below_on (by assumption) ?_) | ((with_reducible refine Below.setCell ?_ ?_ _); rotate_left; focus (first | omega | (simp; done) | (simp; omega))) | (with_reducible assumption))); done))⟩
              case round =>
                obtain ⟨u, rfl, hu, hbu⟩ := hrel
                have cU := cell_by' hbu cT0
                have hus := hbu.size
                by_cases hlt2 : u < k
                · obtain ⟨g0, g1⟩ := HZ.out u hlt2
                  have c0 := cell_by' hbu ((HG.out.cell _).trans g0)
                  have c1 := cell_by' hbu ((HG.out.cell _).trans g1)
                  dsimp only at c0 c1
                  have hud : decide (u < k) = true := decide_eq_true hlt2
                  have hui : (u : Int) < (k : Int) := by omega
                  clear cT0 lT lG
                  rcases (show (u = q ∧ p ≠ q ∧ u ≠ p) ∨ (u = p ∧ p ≠ q ∧ u ≠ q) ∨ (p = q ∧ u = p) ∨ (u ≠ p ∧ u ≠ q) by omega) with ⟨hq, hpq, hp⟩ | ⟨hp, hpq, hq⟩ | ⟨hpq, hp⟩ | ⟨hp, hq⟩
                  · have b1 : ((u : Int) == (q : Int)) = true := by simp; omega
                    have b2 : ((u : Int) == (p : Int)) = false := by simp; omega
                    have b3 : ((p : Int) == (q : Int)) = false := by simp; omega
                    have hd : dueK p q u = 1 := by unfold dueK; rw [if_pos ⟨hq, hpq⟩]
                    rw [hd] at c0
                    clear hd hq hpq hp
                    go_wp2
                    exact ⟨⟨u + 1, by go_num, by omega, hbu⟩, by simp [intOf]; omega⟩
                  · have b1 : ((u : Int) == (q : Int)) = false := by simp; omega
                    have b2 : ((u : Int) == (p : Int)) = true := by simp; omega
                    have b3 : ((p : Int) == (q : Int)) = false := by simp; omega
                    have hd : dueK p q u = -1 := by unfold dueK; rw [if_neg (fun e => hq e.1), if_pos ⟨hp, hpq⟩]
                    rw [hd] at c0
                    clear hd hp hpq hq
                    go_wp2
                    exact ⟨⟨u + 1, by go_num, by omega, hbu⟩, by simp [intOf]; omega⟩
                  · have b1 : ((u : Int) == (q : Int)) = true := by simp; omega
                    have b2 : ((u : Int) == (p : Int)) = true := by simp; omega
                    have b3 : ((p : Int) == (q : Int)) = true := by simp; omega
                    have hd : dueK p q u = 0 := by unfold dueK; rw [if_neg (fun e => e.2 hpq), if_neg (fun e => e.2 hpq)]
                    rw [hd] at c0
                    clear hd hpq hp
                    go_wp2
                    exact ⟨⟨u + 1, by go_num, by omega, hbu⟩, by simp [intOf]; omega⟩
                  · have b1 : ((u : Int) == (q : Int)) = false := by simp; omega
                    have b2 : ((u : Int) == (p : Int)) = false := by simp; omega
                    have hd : dueK p q u = 0 := by unfold dueK; rw [if_neg (fun e => hq e.1), if_neg (fun e => hp e.1)]
                    rw [hd] at c0
                    clear hd hp hq
                    go_wp2
                    exact ⟨⟨u + 1, by go_num, by omega, hbu⟩, by simp [intOf]; omega⟩
                · have hke : (u : Int) = (k : Int) := by omega
                  have hui : ¬ (u : Int) < (k : Int) := by omega
                  clear cT0 lT lG hke
                  go_wp2
                  go_ret
                  exact ⟨rfl, below_on hbu hbW⟩
    · have hp : potS x a b = [] := by unfold potS; rw [if_neg hC]
      have hc : curS x a b = [] := by unfold curS; rw [if_neg hC]
      have h1 := HLV.out
      have h2 := HLC.out
      rw [hp] at h1
      rw [hc] at h2
      simp only [List.length_nil] at h1 h2
      subst h1 h2
      generalize nkC x a b = C at *
      go_wp2
      go_ret
      exact ⟨rfl, hb5w⟩
end Go.Proofs.Ytjolkdckhmmenaa.fnKirchhoff
