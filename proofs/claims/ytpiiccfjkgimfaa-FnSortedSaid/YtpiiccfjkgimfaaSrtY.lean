/- slices.SortStableFunc's own functions at devices: the merge of two sorted parts, one of which has one element. -/
import Derived.Test.YtpiiccfjkgimfaaSrtI
namespace Go.Proofs.Ytpiiccfjkgimfaa
open Go.RowKit
open Go.Sort (swp PermIn SortedIn SWO size_swp swp_get swp_other swp_left swp_right Ins)
set_option linter.unusedVariables false
set_option linter.unusedSimpArgs false

set_option maxRecDepth 100000 in
set_option maxHeartbeats 4000000 in
theorem symMerge_first (gf : Nat) (lb : Array Value) (eg : ∀ args w, (callFunc gf args).run Try.prog w = .ok (.enter gf args) w) (hc : DCmp gf lb) (g cap a m b : Nat) (d : Array (Dv × Nat)) (w : World) (h : DRow w g d) (hm : m = a + 1) (hmb : m < b) (hbd : b ≤ d.size) (hsz : d.size ≤ 1000) (hcap : d.size ≤ cap) (hs : SortedIn dltP (a + 1) b d) :
    Calls Try.prog 142 #[.slice (some ⟨g, 0, none⟩) d.size cap, .int .i64 a, .int .i64 m, .int .i64 b, .func (.func gf) #[] lb] w fun e w' =>
      e = .returned (.tuple #[]) ∧ ∃ d', DRow w' g d' ∧ SortedIn dltP a b d' ∧ PermIn a b d d' ∧ Within g (g + 1) w w' := by
  have HR0 := Lib.hid h
  have HC := Lib.hid hc
  have HP0 := Lib.hid (PermIn.refl' a b d)
  have HS := Lib.hid hs
  have HM := Lib.hid (fun (i : Nat) d' h1 h2 h3 h4 h5 => @merge_first _ _ dltP dltP_swo a b i d d' hs h1 h2 hbd h3 h4 h5)
  have w0 : IntKind.i64.wrap ((m : Int) - (a : Int)) = 1 := by rw [IntKind.wrap_i64]; omega
  have HF0 := Lib.hid (Fol.id d (f := rotI a (a + 1) (a + 1)) (fun k => rotI_none a (a + 1) (a + 1) k (.inr (Nat.le_refl _)) (Nat.le_succ _) (Nat.le_refl _)))
  have HMA := Lib.hid hm
  have hm1 : a < m := by omega
  have hm2 : m ≤ a + 1 := by omega
  clear h hc hs hm
  go_enter Try.func142, Try.ntmps142
  go_wp2
  go_loopw [10, 11] (fun vi vj wr => ∃ (p q : Nat), m ≤ p ∧ p ≤ q ∧ q ≤ b ∧ vi = .int .i64 p ∧ vj = .int .i64 q ∧ Hid (p = a + 1 ∨ dltP d[p - 1]! d[a]! = true) ∧ Hid (q = b ∨ dltP d[q]! d[a]! = false) ∧ Hid (DRow wr g d) ∧ Within g (g + 1) w wr) (fun vi vj _ => (intOf vj - intOf vi).toNat)
  case atStart => exact ⟨m, b, Nat.le_refl _, by omega, Nat.le_refl _, rfl, rfl, Lib.hid (.inl HMA.out), Lib.hid (.inl rfl), HR0, Within.refl _ _ _⟩
  case round =>
    clear HR0
    obtain ⟨p, q, hmp, hpq', hqb, rfl, rfl, HL, HH, HR, hW⟩ := hrel
    by_cases hpq : p < q
    · obtain ⟨t, ht⟩ : ∃ t, (p + q) / 2 = t := ⟨_, rfl⟩
      have ht1 : p ≤ t ∧ t < q := by omega
      obtain ⟨cs, hB, hRC⟩ := HR.out
      obtain ⟨⟨pi, hci, hoi⟩, _⟩ := hRC t (by omega)
      obtain ⟨⟨pj, hcj, hoj⟩, _⟩ := hRC a (by omega)
      have HCL := Lib.hid (fun W h1 h2 => HC.out W d[t]!.1 d[a]!.1 pi pj h1 h2)
      obtain ⟨a1, c1, rfl⟩ := hoi.sl.len
      obtain ⟨a2, c2, rfl⟩ := hoj.sl.len
      have HX := Lib.hid hoi.sl
      have HY := Lib.hid hoj.sl
      have HLT := Lib.hid (show dltP d[t]! d[a]! = decide (dcf d[t]!.1 d[a]!.1 < 0) from rfl)
      generalize dcf d[t]!.1 d[a]!.1 = r at HCL HLT
      generalize d[t]!.1 = xi at hci HCL HX
      generalize d[a]!.1 = xj at hcj HCL HY
      obtain ⟨ki, psi, wi, li⟩ := xi
      obtain ⟨kj, psj, wj, lj⟩ := xj
      dsimp only at hci hcj HCL HX HY
      obtain ⟨ni, hni⟩ : ∃ ni, psi.length = ni := ⟨_, rfl⟩
      obtain ⟨nj, hnj⟩ : ∃ nj, psj.length = nj := ⟨_, rfl⟩
      rw [hni] at hci HCL HX
      rw [hnj] at hcj HCL HY
      obtain ⟨p0, p1, p2, p3⟩ := hci
      obtain ⟨q0, q1, q2, q3⟩ := hcj
      have hBc := hB.cell
      have hBl := hB.lt
      have i0 : (p : Int) < (q : Int) := by omega
      have i1 : (0 : Int) ≤ (t : Int) := by omega
      have i2 : (t : Int) < (d.size : Int) := by omega
      have i3 : (a : Int) < (d.size : Int) := by omega
      have e1 : IntKind.i64.wrap ((p : Int) + (q : Int)) = (p : Int) + (q : Int) := by rw [IntKind.wrap_i64]; omega
      have e2 : IntKind.u64.wrap ((p : Int) + (q : Int)) = (p : Int) + (q : Int) := by simp [IntKind.wrap, IntKind.bits, IntKind.signed]; omega
      clear hni hnj hoi hoj hRC
      go_upto_region 5 with fail
      rw [show ((p : Int) + (q : Int)) / 2 = (t : Int) by omega]
      clear ht
      by_cases hr : r < 0
      · have HLT2 := Lib.hid (HLT.out.trans (decide_eq_true hr))
        go_region_held3 (fun w' => (Blk w' g cs 55 ∧ ∀ o, w'.cell? ⟨g, o, none⟩ = cs[o]?) ∧ Below wr.heap.size wr w') (((try (obtain ⟨⟨hS0, _⟩, hSB⟩ := hHeld)); refine ⟨Blk.both ?_, ?_⟩ <;> first | ((repeat (first | (with_reducible assumption) | (with_reducible refine Blk.drewN ?_ _) | (with_reducible refine Blk.drew ?_) | ((with_reducible refine Blk.new _ ?_); focus (first | omega | (simp; done) | (simp; omega))) | (with_reducible refine Blk.past ?_ _) | ((with_reducible refine Blk.apart ?_ _ _ _ ?_); rotate_left; focus (first | omega | (simp; done) | (simp; omega))) | (with_reducible refine Blk.by (by assumption) ?_))); done) | ((repeat (first | (with_reducible exact Below.refl _ _) | (with_reducible refine below_drewN ?_ _) | (with_reducible refine Below.drew ?_) | (with_reducible refine below_al ?_ _) | (with_reducible refine below_on (by assumption) ?_) | ((with_reducible refine Below.setCell ?_ ?_ _); rotate_left; focus (first | omega | (simp; done) | (simp; omega))) | (with_reducible assumption))); done)))
          (first | (go_at_fn gf; refine (HCL.out _ (HX.out.by (by ((repeat (first | (with_reducible exact Below.refl _ _) | (with_reducible refine below_drewN ?_ _) | (with_reducible refine Below.drew ?_) | (with_reducible refine below_al ?_ _) | (with_reducible refine below_on (by assumption) ?_) | ((with_reducible refine Below.setCell ?_ ?_ _); rotate_left; focus (first | omega | (simp; done) | (simp; omega))) | (with_reducible assumption))); done))) (HY.out.by (by ((repeat (first | (with_reducible exact Below.refl _ _) | (with_reducible refine below_drewN ?_ _) | (with_reducible refine Below.drew ?_) | (with_reducible refine below_al ?_ _) | (with_reducible refine below_on (by assumption) ?_) | ((with_reducible refine Below.setCell ?_ ?_ _); rotate_left; focus (first | omega | (simp; done) | (simp; omega))) | (with_reducible assumption))); done)))).mono ?_; rintro e w1 ⟨rfl, hb1⟩))
        all_goals
          have hb2 : Below wr.heap.size wr w1 := (by ((repeat (first | (with_reducible exact Below.refl _ _) | (with_reducible refine below_drewN ?_ _) | (with_reducible refine Below.drew ?_) | (with_reducible refine below_al ?_ _) | (with_reducible refine below_on (by assumption) ?_) | ((with_reducible refine Below.setCell ?_ ?_ _); rotate_left; focus (first | omega | (simp; done) | (simp; omega))) | (with_reducible assumption))); done))
          go_wp2_with fail
          exact ⟨⟨t + 1, q, by omega, by omega, hqb, by go_num, rfl, Lib.hid (.inr HLT2.out), HH, Lib.hid (HR.out.by hb2), hW.on (Within.ofBelow hb2)⟩, by simp [intOf]; omega⟩
      · have HLT2 := Lib.hid (HLT.out.trans (decide_eq_false hr))
        go_region_held3 (fun w' => (Blk w' g cs 55 ∧ ∀ o, w'.cell? ⟨g, o, none⟩ = cs[o]?) ∧ Below wr.heap.size wr w') (((try (obtain ⟨⟨hS0, _⟩, hSB⟩ := hHeld)); refine ⟨Blk.both ?_, ?_⟩ <;> first | ((repeat (first | (with_reducible assumption) | (with_reducible refine Blk.drewN ?_ _) | (with_reducible refine Blk.drew ?_) | ((with_reducible refine Blk.new _ ?_); focus (first | omega | (simp; done) | (simp; omega))) | (with_reducible refine Blk.past ?_ _) | ((with_reducible refine Blk.apart ?_ _ _ _ ?_); rotate_left; focus (first | omega | (simp; done) | (simp; omega))) | (with_reducible refine Blk.by (by assumption) ?_))); done) | ((repeat (first | (with_reducible exact Below.refl _ _) | (with_reducible refine below_drewN ?_ _) | (with_reducible refine Below.drew ?_) | (with_reducible refine below_al ?_ _) | (with_reducible refine below_on (by assumption) ?_) | ((with_reducible refine Below.setCell ?_ ?_ _); rotate_left; focus (first | omega | (simp; done) | (simp; omega))) | (with_reducible assumption))); done)))
          (first | (go_at_fn gf; refine (HCL.out _ (HX.out.by (by ((repeat (first | (with_reducible exact Below.refl _ _) | (with_reducible refine below_drewN ?_ _) | (with_reducible refine Below.drew ?_) | (with_reducible refine below_al ?_ _) | (with_reducible refine below_on (by assumption) ?_) | ((with_reducible refine Below.setCell ?_ ?_ _); rotate_left; focus (first | omega | (simp; done) | (simp; omega))) | (with_reducible assumption))); done))) (HY.out.by (by ((repeat (first | (with_reducible exact Below.refl _ _) | (with_reducible refine below_drewN ?_ _) | (with_reducible refine Below.drew ?_) | (with_reducible refine below_al ?_ _) | (with_reducible refine below_on (by assumption) ?_) | ((with_reducible refine Below.setCell ?_ ?_ _); rotate_left; focus (first | omega | (simp; done) | (simp; omega))) | (with_reducible assumption))); done)))).mono ?_; rintro e w1 ⟨rfl, hb1⟩))
        all_goals
          have hb2 : Below wr.heap.size wr w1 := (by ((repeat (first | (with_reducible exact Below.refl _ _) | (with_reducible refine below_drewN ?_ _) | (with_reducible refine Below.drew ?_) | (with_reducible refine below_al ?_ _) | (with_reducible refine below_on (by assumption) ?_) | ((with_reducible refine Below.setCell ?_ ?_ _); rotate_left; focus (first | omega | (simp; done) | (simp; omega))) | (with_reducible assumption))); done))
          go_wp2_with fail
          exact ⟨⟨p, t, by omega, by omega, by omega, rfl, rfl, HL, Lib.hid (.inr HLT2.out), Lib.hid (HR.out.by hb2), hW.on (Within.ofBelow hb2)⟩, by simp [intOf]; omega⟩
    · obtain rfl : p = q := by omega
      obtain ⟨ip, rfl⟩ : ∃ ip, p = ip + 1 := ⟨p - 1, by omega⟩
      have i3 : ¬ ((ip : Int) + 1) < ((ip : Int) + 1) := by omega
      have wip : IntKind.i64.wrap (ip : Int) = (ip : Int) := by rw [IntKind.wrap_i64]; omega
      obtain ⟨wo, rfl⟩ : ∃ wo, wo = wr := ⟨_, rfl⟩
      go_wp2
      go_loopw [13] (fun vk wr => ∃ (k : Nat) (dk : Array (Dv × Nat)), a ≤ k ∧ k ≤ ip ∧ vk = .int .i64 k ∧ Hid (dk.size = d.size) ∧ Hid (DRow wr g dk) ∧ Hid (Fol (rotI a (a + 1) (k + 1)) d dk) ∧ Hid (PermIn a b d dk) ∧ Within g (g + 1) w wr) (fun vk _ => ip - (intOf vk).toNat)
      case atStart => exact ⟨a, d, Nat.le_refl _, by omega, rfl, Lib.hid rfl, HR, HF0, HP0, hW⟩
      case round =>
        clear HR hW HF0 HP0
        obtain ⟨k, dk, hak, hki, rfl, HZ, HR, HF, HP, hW⟩ := hrel
        by_cases hlt : k < ip
        · obtain ⟨cs, hB, hRC⟩ := HR.out
          obtain ⟨⟨pi, hci, hoi⟩, _⟩ := hRC k (by rw [HZ.out]; omega)
          obtain ⟨⟨pj, hcj, hoj⟩, _⟩ := hRC (k + 1) (by rw [HZ.out]; omega)
          have HRS := Lib.hid (RowC.swp hRC (i := k) (j := k + 1) (by rw [HZ.out]; omega) (by rw [HZ.out]; omega) (by omega) hci hoi hcj hoj)
          have HPS := Lib.hid (PermIn.swp HP.out (i := k) (j := k + 1) (by omega) (by omega) (by omega) (by omega) hbd)
          have HSS := Lib.hid (show (swp dk k (k + 1)).size = d.size by rw [size_swp]; exact HZ.out)
          have HFS := Lib.hid (HF.out.swp (i := k) (j := k + 1) (by omega) (by omega) (fun q => rotI_up (a := a) (i := k) (k := q) hak))
          obtain ⟨a1, c1, rfl⟩ := hoi.sl.len
          obtain ⟨a2, c2, rfl⟩ := hoj.sl.len
          generalize swp dk k (k + 1) = ds at HRS HPS HSS HFS
          generalize dk[k]! = xi at *
          generalize dk[k + 1]! = xj at *
          obtain ⟨⟨ki, psi, wi, li⟩, fi⟩ := xi
          obtain ⟨⟨kj, psj, wj, lj⟩, fj⟩ := xj
          dsimp only at *
          obtain ⟨ni, hni⟩ : ∃ ni, psi.length = ni := ⟨_, rfl⟩
          obtain ⟨nj, hnj⟩ : ∃ nj, psj.length = nj := ⟨_, rfl⟩
          rw [hni] at hci HRS
          rw [hnj] at hcj HRS
          obtain ⟨p0, p1, p2, p3⟩ := hci
          obtain ⟨q0, q1, q2, q3⟩ := hcj
          have hBc := hB.cell
          have hBf := hB.free
          have hBl := hB.lt
          have i0 : (0 : Int) ≤ (k : Int) := by omega
          have i1 : (k : Int) < (d.size : Int) := by omega
          have j0 : (0 : Int) ≤ (k : Int) + 1 := by omega
          have j1 : (k : Int) + 1 < (d.size : Int) := by omega
          have j2 : (k : Int) < (ip : Int) := by omega
          have wk : IntKind.i64.wrap ((k : Int) + 1) = (k : Int) + 1 := by rw [IntKind.wrap_i64]; omega
          have ek : ((k : Int) + 1).toNat = k + 1 := by omega
          clear hni hnj hoi hoj hRC
          go_wp2_with fail
          go_region
          all_goals go_wp2_with fail
          obtain ⟨W8, hW8, hB8, hWW⟩ := swap_cells hB k (k + 1) (.int .i64 kj) (.slice a2 nj c2) (.int .i64 wj) (.int .i64 lj) (.int .i64 ki) (.slice a1 ni c1) (.int .i64 wi) (.int .i64 li)
          rw [← hW8]
          exact ⟨⟨k + 1, ds, by omega, by omega, by go_num, HSS, Lib.hid ⟨_, hB8, HRS.out.past hWW⟩, HFS, HPS, hW.on hWW⟩, by simp [intOf]; omega⟩
        · obtain rfl : k = ip := by omega
          have i4 : ¬ (k : Int) < (k : Int) := by omega
          go_wp2
          (try simp only [Exit.inBlock, Exit.then]); refine bodyPost_ret (results_none rfl _ _ _) rfl ?_
          exact ⟨by rfl, dk, HR.out, HM.out (k + 1) dk (by omega) (by omega) HL.out HH.out HF.out, HP.out, hW⟩
set_option maxRecDepth 100000 in
set_option maxHeartbeats 4000000 in
theorem symMerge_last (gf : Nat) (lb : Array Value) (eg : ∀ args w, (callFunc gf args).run Try.prog w = .ok (.enter gf args) w) (hc : DCmp gf lb) (g cap a m b : Nat) (d : Array (Dv × Nat)) (w : World) (h : DRow w g d) (hm : b = m + 1) (ham : a + 1 < m) (hbd : b ≤ d.size) (hsz : d.size ≤ 1000) (hcap : d.size ≤ cap) (hs : SortedIn dltP a m d) :
    Calls Try.prog 142 #[.slice (some ⟨g, 0, none⟩) d.size cap, .int .i64 a, .int .i64 m, .int .i64 b, .func (.func gf) #[] lb] w fun e w' =>
      e = .returned (.tuple #[]) ∧ ∃ d', DRow w' g d' ∧ SortedIn dltP a b d' ∧ PermIn a b d d' ∧ Within g (g + 1) w w' := by
  have HR0 := Lib.hid h
  have HC := Lib.hid hc
  have HP0 := Lib.hid (PermIn.refl' a b d)
  have HS := Lib.hid hs
  have HM := Lib.hid (fun (i : Nat) d' h1 h2 h3 h4 h5 => @merge_last _ _ dltP dltP_swo a m i d d' hs h1 h2 (by omega) h3 h4 h5)
  have w0 : IntKind.i64.wrap ((b : Int) - (m : Int)) = 1 := by rw [IntKind.wrap_i64]; omega
  have w9 : IntKind.i64.wrap ((m : Int) - (a : Int)) = (m : Int) - (a : Int) := by rw [IntKind.wrap_i64]; omega
  have w8 : ((m : Int) - (a : Int) == 1) = false := by simp; omega
  have HF0 := Lib.hid (Fol.id d (f := rotI m m (m + 1)) (fun k => rotI_none m m (m + 1) k (.inl (Nat.le_refl _)) (Nat.le_refl _) (Nat.le_succ _)))
  have HBM := Lib.hid (show SortedIn dltP a b = SortedIn dltP a (m + 1) by rw [hm])
  have HMA := Lib.hid hm
  have hm1 : m < b := by omega
  have hm2 : b ≤ m + 1 := by omega
  clear h hc hs hm
  go_enter Try.func142, Try.ntmps142
  go_wp2
  go_loopw [14, 15] (fun vi vj wr => ∃ (p q : Nat), a ≤ p ∧ p ≤ q ∧ q ≤ m ∧ vi = .int .i64 p ∧ vj = .int .i64 q ∧ Hid (p = a ∨ dltP d[m]! d[p - 1]! = false) ∧ Hid (q = m ∨ dltP d[m]! d[q]! = true) ∧ Hid (DRow wr g d) ∧ Within g (g + 1) w wr) (fun vi vj _ => (intOf vj - intOf vi).toNat)
  case atStart => exact ⟨a, m, Nat.le_refl _, by omega, Nat.le_refl _, rfl, rfl, Lib.hid (.inl rfl), Lib.hid (.inl rfl), HR0, Within.refl _ _ _⟩
  case round =>
    clear HR0
    obtain ⟨p, q, hmp, hpq', hqb, rfl, rfl, HL, HH, HR, hW⟩ := hrel
    by_cases hpq : p < q
    · obtain ⟨t, ht⟩ : ∃ t, (p + q) / 2 = t := ⟨_, rfl⟩
      have ht1 : p ≤ t ∧ t < q := by omega
      obtain ⟨cs, hB, hRC⟩ := HR.out
      obtain ⟨⟨pi, hci, hoi⟩, _⟩ := hRC m (by omega)
      obtain ⟨⟨pj, hcj, hoj⟩, _⟩ := hRC t (by omega)
      have HCL := Lib.hid (fun W h1 h2 => HC.out W d[m]!.1 d[t]!.1 pi pj h1 h2)
      obtain ⟨a1, c1, rfl⟩ := hoi.sl.len
      obtain ⟨a2, c2, rfl⟩ := hoj.sl.len
      have HX := Lib.hid hoi.sl
      have HY := Lib.hid hoj.sl
      have HLT := Lib.hid (show dltP d[m]! d[t]! = decide (dcf d[m]!.1 d[t]!.1 < 0) from rfl)
      generalize dcf d[m]!.1 d[t]!.1 = r at HCL HLT
      generalize d[m]!.1 = xi at hci HCL HX
      generalize d[t]!.1 = xj at hcj HCL HY
      obtain ⟨ki, psi, wi, li⟩ := xi
      obtain ⟨kj, psj, wj, lj⟩ := xj
      dsimp only at hci hcj HCL HX HY
      obtain ⟨ni, hni⟩ : ∃ ni, psi.length = ni := ⟨_, rfl⟩
      obtain ⟨nj, hnj⟩ : ∃ nj, psj.length = nj := ⟨_, rfl⟩
      rw [hni] at hci HCL HX
      rw [hnj] at hcj HCL HY
      obtain ⟨p0, p1, p2, p3⟩ := hci
      obtain ⟨q0, q1, q2, q3⟩ := hcj
      have hBc := hB.cell
      have hBl := hB.lt
      have i0 : (p : Int) < (q : Int) := by omega
      have i1 : (0 : Int) ≤ (t : Int) := by omega
      have i2 : (t : Int) < (d.size : Int) := by omega
      have i3 : (m : Int) < (d.size : Int) := by omega
      have e1 : IntKind.i64.wrap ((p : Int) + (q : Int)) = (p : Int) + (q : Int) := by rw [IntKind.wrap_i64]; omega
      have e2 : IntKind.u64.wrap ((p : Int) + (q : Int)) = (p : Int) + (q : Int) := by simp [IntKind.wrap, IntKind.bits, IntKind.signed]; omega
      clear hni hnj hoi hoj hRC
      go_upto_region 17 with fail
      rw [show ((p : Int) + (q : Int)) / 2 = (t : Int) by omega]
      clear ht
      by_cases hr : r < 0
      · have HLT2 := Lib.hid (HLT.out.trans (decide_eq_true hr))
        go_region_held3 (fun w' => (Blk w' g cs 55 ∧ ∀ o, w'.cell? ⟨g, o, none⟩ = cs[o]?) ∧ Below wr.heap.size wr w') (((try (obtain ⟨⟨hS0, _⟩, hSB⟩ := hHeld)); refine ⟨Blk.both ?_, ?_⟩ <;> first | ((repeat (first | (with_reducible assumption) | (with_reducible refine Blk.drewN ?_ _) | (with_reducible refine Blk.drew ?_) | ((with_reducible refine Blk.new _ ?_); focus (first | omega | (simp; done) | (simp; omega))) | (with_reducible refine Blk.past ?_ _) | ((with_reducible refine Blk.apart ?_ _ _ _ ?_); rotate_left; focus (first | omega | (simp; done) | (simp; omega))) | (with_reducible refine Blk.by (by assumption) ?_))); done) | ((repeat (first | (with_reducible exact Below.refl _ _) | (with_reducible refine below_drewN ?_ _) | (with_reducible refine Below.drew ?_) | (with_reducible refine below_al ?_ _) | (with_reducible refine below_on (by assumption) ?_) | ((with_reducible refine Below.setCell ?_ ?_ _); rotate_left; focus (first | omega | (simp; done) | (simp; omega))) | (with_reducible assumption))); done)))
          (first | (go_at_fn gf; refine (HCL.out _ (HX.out.by (by ((repeat (first | (with_reducible exact Below.refl _ _) | (with_reducible refine below_drewN ?_ _) | (with_reducible refine Below.drew ?_) | (with_reducible refine below_al ?_ _) | (with_reducible refine below_on (by assumption) ?_) | ((with_reducible refine Below.setCell ?_ ?_ _); rotate_left; focus (first | omega | (simp; done) | (simp; omega))) | (with_reducible assumption))); done))) (HY.out.by (by ((repeat (first | (with_reducible exact Below.refl _ _) | (with_reducible refine below_drewN ?_ _) | (with_reducible refine Below.drew ?_) | (with_reducible refine below_al ?_ _) | (with_reducible refine below_on (by assumption) ?_) | ((with_reducible refine Below.setCell ?_ ?_ _); rotate_left; focus (first | omega | (simp; done) | (simp; omega))) | (with_reducible assumption))); done)))).mono ?_; rintro e w1 ⟨rfl, hb1⟩))
        all_goals
          have hb2 : Below wr.heap.size wr w1 := (by ((repeat (first | (with_reducible exact Below.refl _ _) | (with_reducible refine below_drewN ?_ _) | (with_reducible refine Below.drew ?_) | (with_reducible refine below_al ?_ _) | (with_reducible refine below_on (by assumption) ?_) | ((with_reducible refine Below.setCell ?_ ?_ _); rotate_left; focus (first | omega | (simp; done) | (simp; omega))) | (with_reducible assumption))); done))
          go_wp2_with fail
          exact ⟨⟨p, t, by omega, by omega, by omega, rfl, rfl, HL, Lib.hid (.inr HLT2.out), Lib.hid (HR.out.by hb2), hW.on (Within.ofBelow hb2)⟩, by simp [intOf]; omega⟩
      · have HLT2 := Lib.hid (HLT.out.trans (decide_eq_false hr))
        have hr2 : (!decide (r < 0)) = true := by simp; omega
        go_region_held3 (fun w' => (Blk w' g cs 55 ∧ ∀ o, w'.cell? ⟨g, o, none⟩ = cs[o]?) ∧ Below wr.heap.size wr w') (((try (obtain ⟨⟨hS0, _⟩, hSB⟩ := hHeld)); refine ⟨Blk.both ?_, ?_⟩ <;> first | ((repeat (first | (with_reducible assumption) | (with_reducible refine Blk.drewN ?_ _) | (with_reducible refine Blk.drew ?_) | ((with_reducible refine Blk.new _ ?_); focus (first | omega | (simp; done) | (simp; omega))) | (with_reducible refine Blk.past ?_ _) | ((with_reducible refine Blk.apart ?_ _ _ _ ?_); rotate_left; focus (first | omega | (simp; done) | (simp; omega))) | (with_reducible refine Blk.by (by assumption) ?_))); done) | ((repeat (first | (with_reducible exact Below.refl _ _) | (with_reducible refine below_drewN ?_ _) | (with_reducible refine Below.drew ?_) | (with_reducible refine below_al ?_ _) | (with_reducible refine below_on (by assumption) ?_) | ((with_reducible refine Below.setCell ?_ ?_ _); rotate_left; focus (first | omega | (simp; done) | (simp; omega))) | (with_reducible assumption))); done)))
          (first | (go_at_fn gf; refine (HCL.out _ (HX.out.by (by ((repeat (first | (with_reducible exact Below.refl _ _) | (with_reducible refine below_drewN ?_ _) | (with_reducible refine Below.drew ?_) | (with_reducible refine below_al ?_ _) | (with_reducible refine below_on (by assumption) ?_) | ((with_reducible refine Below.setCell ?_ ?_ _); rotate_left; focus (first | omega | (simp; done) | (simp; omega))) | (with_reducible assumption))); done))) (HY.out.by (by ((repeat (first | (with_reducible exact Below.refl _ _) | (with_reducible refine below_drewN ?_ _) | (with_reducible refine Below.drew ?_) | (with_reducible refine below_al ?_ _) | (with_reducible refine below_on (by assumption) ?_) | ((with_reducible refine Below.setCell ?_ ?_ _); rotate_left; focus (first | omega | (simp; done) | (simp; omega))) | (with_reducible assumption))); done)))).mono ?_; rintro e w1 ⟨rfl, hb1⟩))
        all_goals
          have hb2 : Below wr.heap.size wr w1 := (by ((repeat (first | (with_reducible exact Below.refl _ _) | (with_reducible refine below_drewN ?_ _) | (with_reducible refine Below.drew ?_) | (with_reducible refine below_al ?_ _) | (with_reducible refine below_on (by assumption) ?_) | ((with_reducible refine Below.setCell ?_ ?_ _); rotate_left; focus (first | omega | (simp; done) | (simp; omega))) | (with_reducible assumption))); done))
          go_wp2_with fail
          exact ⟨⟨t + 1, q, by omega, by omega, hqb, by go_num, rfl, Lib.hid (.inr HLT2.out), HH, Lib.hid (HR.out.by hb2), hW.on (Within.ofBelow hb2)⟩, by simp [intOf]; omega⟩
    · obtain rfl : p = q := by omega
      have i3 : ¬ (p : Int) < (p : Int) := by omega
      obtain ⟨wo, rfl⟩ : ∃ wo, wo = wr := ⟨_, rfl⟩
      go_wp2
      go_loopw [17] (fun vk wr => ∃ (k : Nat) (dk : Array (Dv × Nat)), p ≤ k ∧ k ≤ m ∧ vk = .int .i64 k ∧ Hid (dk.size = d.size) ∧ Hid (DRow wr g dk) ∧ Hid (Fol (rotI k m (m + 1)) d dk) ∧ Hid (PermIn a b d dk) ∧ Within g (g + 1) w wr) (fun vk _ => (intOf vk).toNat)
      case atStart => exact ⟨m, d, by omega, Nat.le_refl _, rfl, Lib.hid rfl, HR, HF0, HP0, hW⟩
      case round =>
        clear HR hW HF0 HP0
        obtain ⟨k, dk, hpk, hkm, rfl, HZ, HR, HF, HP, hW⟩ := hrel
        by_cases hlt : p < k
        · obtain ⟨kp, rfl⟩ : ∃ kp, k = kp + 1 := ⟨k - 1, by omega⟩
          obtain ⟨cs, hB, hRC⟩ := HR.out
          obtain ⟨⟨pi, hci, hoi⟩, _⟩ := hRC (kp + 1) (by rw [HZ.out]; omega)
          obtain ⟨⟨pj, hcj, hoj⟩, _⟩ := hRC kp (by rw [HZ.out]; omega)
          have HRS := Lib.hid (RowC.swp hRC (i := kp + 1) (j := kp) (by rw [HZ.out]; omega) (by rw [HZ.out]; omega) (by omega) hci hoi hcj hoj)
          have HPS := Lib.hid (PermIn.swp HP.out (i := kp + 1) (j := kp) (by omega) (by omega) (by omega) (by omega) hbd)
          have HSS := Lib.hid (show (swp dk (kp + 1) kp).size = d.size by rw [size_swp]; exact HZ.out)
          have HFS := Lib.hid (HF.out.swp (i := kp + 1) (j := kp) (g := rotI kp m (m + 1)) (by omega) (by omega) (fun q => by have := rotI_down (i := kp + 1) (m := m) (k := q) hkm (by omega); simpa using this))
          obtain ⟨a1, c1, rfl⟩ := hoi.sl.len
          obtain ⟨a2, c2, rfl⟩ := hoj.sl.len
          generalize swp dk (kp + 1) kp = ds at HRS HPS HSS HFS
          generalize dk[kp + 1]! = xi at *
          generalize dk[kp]! = xj at *
          obtain ⟨⟨ki, psi, wi, li⟩, fi⟩ := xi
          obtain ⟨⟨kj, psj, wj, lj⟩, fj⟩ := xj
          dsimp only at *
          obtain ⟨ni, hni⟩ : ∃ ni, psi.length = ni := ⟨_, rfl⟩
          obtain ⟨nj, hnj⟩ : ∃ nj, psj.length = nj := ⟨_, rfl⟩
          rw [hni] at hci HRS
          rw [hnj] at hcj HRS
          obtain ⟨p0, p1, p2, p3⟩ := hci
          obtain ⟨q0, q1, q2, q3⟩ := hcj
          have hBc := hB.cell
          have hBf := hB.free
          have hBl := hB.lt
          have i0 : (0 : Int) ≤ (kp : Int) := by omega
          have i1 : (kp : Int) < (d.size : Int) := by omega
          have j0 : (0 : Int) ≤ (kp : Int) + 1 := by omega
          have j1 : (kp : Int) + 1 < (d.size : Int) := by omega
          have j2 : (p : Int) < (kp : Int) + 1 := by omega
          have wk : IntKind.i64.wrap (kp : Int) = (kp : Int) := by rw [IntKind.wrap_i64]; omega
          have ek : ((kp : Int) + 1).toNat = kp + 1 := by omega
          clear hni hnj hoi hoj hRC
          go_wp2_with fail
          go_region
          all_goals go_wp2_with fail
          obtain ⟨W8, hW8, hB8, hWW⟩ := swap_cells hB (kp + 1) kp (.int .i64 kj) (.slice a2 nj c2) (.int .i64 wj) (.int .i64 lj) (.int .i64 ki) (.slice a1 ni c1) (.int .i64 wi) (.int .i64 li)
          rw [← hW8]
          exact ⟨⟨kp, ds, by omega, by omega, by rfl, HSS, Lib.hid ⟨_, hB8, HRS.out.past hWW⟩, HFS, HPS, hW.on hWW⟩, by simp [intOf]⟩
        · obtain rfl : k = p := by omega
          have i4 : ¬ (k : Int) < (k : Int) := by omega
          go_wp2
          (try simp only [Exit.inBlock, Exit.then]); refine bodyPost_ret (results_none rfl _ _ _) rfl ?_
          exact ⟨by rfl, dk, HR.out, by rw [HBM.out]; exact HM.out k dk (by omega) (by omega) HL.out HH.out HF.out, HP.out, hW⟩
end Go.Proofs.Ytpiiccfjkgimfaa
