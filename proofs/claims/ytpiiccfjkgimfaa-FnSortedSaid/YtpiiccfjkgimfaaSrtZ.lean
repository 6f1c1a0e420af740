/- slices.SortStableFunc's own functions at devices: the merge of two sorted parts. -/
import Derived.Test.YtpiiccfjkgimfaaSrtY
namespace Go.Proofs.Ytpiiccfjkgimfaa
open Go.RowKit
open Go.Sort (swp PermIn SortedIn SWO size_swp swp_get swp_other swp_left swp_right Ins)
set_option linter.unusedVariables false
set_option linter.unusedSimpArgs false

/-- What is asked of the merge of two sorted parts. -/
def Merges (gf : Nat) (lb : Array Value) (g cap a m b : Nat) (d : Array (Dv × Nat)) (w : World) : Prop :=
    Calls Try.prog 142 #[.slice (some ⟨g, 0, none⟩) d.size cap, .int .i64 a, .int .i64 m, .int .i64 b, .func (.func gf) #[] lb] w fun e w' =>
      e = .returned (.tuple #[]) ∧ ∃ d', DRow w' g d' ∧ SortedIn dltP a b d' ∧ PermIn a b d d' ∧ Within g (g + 1) w w'
theorem merge_done {a mid b : Nat} {d d1 d2 d3 : Array (Dv × Nat)} (hbd : b ≤ d.size) (ham : a ≤ mid) (hmb : mid ≤ b) (hP1 : PermIn a b d d1) (hx : ∀ i j, a ≤ i → i < mid → mid ≤ j → j < b → dltP d1[j]! d1[i]! = false)
    (hS2 : SortedIn dltP a mid d2) (hP2 : PermIn a mid d1 d2) (hS3 : SortedIn dltP mid b d3) (hP3 : PermIn mid b d2 d3) : SortedIn dltP a b d3 ∧ PermIn a b d d3 := by
  have z1 : d1.size = d.size := hP1.1
  have z2 : d2.size = d.size := hP2.1.trans z1
  have x2 := apart_perm (by rw [z1]; exact hbd) hP2 (.inl ⟨Nat.le_refl _, Nat.le_refl _⟩) (by rw [z1]; omega) hx
  have x3 := apart_perm (by rw [z2]; exact hbd) hP3 (.inr ⟨Nat.le_refl _, Nat.le_refl _⟩) (by rw [z2]; omega) x2
  exact ⟨SortedIn.join (SortedIn.out hS2 hP3 (.inl (Nat.le_refl _))) hS3 x3, PermIn.on hP1 (PermIn.on (PermIn.wide hP2 (Nat.le_refl _) hmb (by rw [z1]; exact hbd)) (PermIn.wide hP3 ham (Nat.le_refl _) (by rw [z2]; exact hbd)))⟩

set_option maxRecDepth 100000 in
set_option maxHeartbeats 4000000 in
theorem symMerge_mid (gf : Nat) (lb : Array Value) (eg : ∀ args w, (callFunc gf args).run Try.prog w = .ok (.enter gf args) w) (hc : DCmp gf lb) (g cap a m b : Nat) (d : Array (Dv × Nat)) (w : World) (h : DRow w g d) (ham : a + 1 < m) (hmb : m + 1 < b) (hbd : b ≤ d.size) (hsz : d.size ≤ 1000) (hcap : d.size ≤ cap) (h1 : SortedIn dltP a m d) (h2 : SortedIn dltP m b d)
    (ih : ∀ (a' m' b' : Nat) (d' : Array (Dv × Nat)) (w' : World), b' - a' < b - a → DRow w' g d' → a' < m' → m' < b' → b' ≤ d'.size → d'.size = d.size → SortedIn dltP a' m' d' → SortedIn dltP m' b' d' → Merges gf lb g cap a' m' b' d' w') :
    Merges gf lb g cap a m b d w := by
  obtain ⟨mid, hmid⟩ : ∃ mid, (a + b) / 2 = mid := ⟨_, rfl⟩
  have hmid1 : a < mid ∧ mid < b := by omega
  have hmid2 : mid - a ≤ b - mid ∧ b - mid ≤ mid - a + 1 := by omega
  obtain ⟨s0, r0, hbr⟩ : ∃ s0 r0 : Nat, (mid < m ∧ s0 + b = mid + m ∧ r0 = mid) ∨ (m ≤ mid ∧ s0 = a ∧ r0 = m) := by
    by_cases q : mid < m
    · exact ⟨mid + m - b, mid, .inl ⟨q, by omega, rfl⟩⟩
    · exact ⟨a, m, .inr ⟨by omega, rfl, rfl⟩⟩
  have hs0 : a ≤ s0 ∧ s0 ≤ r0 ∧ r0 ≤ m ∧ r0 ≤ mid := by omega
  have HR0 := Lib.hid h
  have HC := Lib.hid hc
  have IH := Lib.hid ih
  have HP0 := Lib.hid (PermIn.refl' a b d)
  have HMID := Lib.hid (fun (s : Nat) (d1 : Array (Dv × Nat)) (q1 : a ≤ s) (q2 : s ≤ m) (q3 : s ≤ mid) (q4 : mid + m - s ≤ b) hl hr hf => merge_mid dltP_swo (s := s) (e := mid + m - s) (mid := mid) (d' := d1) h1 h2 q1 q2 (by omega) q4 hbd (by omega) hl hr hf)
  have HL0 := Lib.hid (show s0 = a ∨ mid + m - s0 = b ∨ dltP d[mid + m - s0]! d[s0 - 1]! = false by rcases hbr with ⟨_, q, _⟩ | ⟨_, q, _⟩ <;> omega)
  have HH0 := Lib.hid (show r0 = m ∨ mid + m - r0 = m ∨ dltP d[mid + m - r0 - 1]! d[r0]! = true by rcases hbr with ⟨_, _, q⟩ | ⟨_, _, q⟩ <;> omega)
  have HBR := Lib.hid hbr
  have HM := Lib.hid hmid
  have hpb : mid + m - s0 ≤ b := by rcases hbr with ⟨_, q, _⟩ | ⟨_, q, _⟩ <;> omega
  have w1 : IntKind.i64.wrap ((m : Int) - (a : Int)) = (m : Int) - (a : Int) := by rw [IntKind.wrap_i64]; omega
  have w2 : ((m : Int) - (a : Int) == 1) = false := by simp; omega
  have w3 : IntKind.i64.wrap ((b : Int) - (m : Int)) = (b : Int) - (m : Int) := by rw [IntKind.wrap_i64]; omega
  have w4 : ((b : Int) - (m : Int) == 1) = false := by simp; omega
  have w5 : IntKind.i64.wrap ((a : Int) + (b : Int)) = (a : Int) + (b : Int) := by rw [IntKind.wrap_i64]; omega
  have w6 : IntKind.u64.wrap ((a : Int) + (b : Int)) = (a : Int) + (b : Int) := by simp [IntKind.wrap, IntKind.bits, IntKind.signed]; omega
  have w7 : ((a : Int) + (b : Int)) / 2 = (mid : Int) := by omega
  have w8 : IntKind.i64.wrap ((mid : Int) + (m : Int)) = ((mid + m : Nat) : Int) := by rw [IntKind.wrap_i64]; omega
  have w9 : IntKind.i64.wrap ((mid : Int) + (m : Int) - (b : Int)) = (mid : Int) + (m : Int) - (b : Int) := by rw [IntKind.wrap_i64]; omega
  obtain ⟨P, hP⟩ : ∃ P, mid + m - 1 = P := ⟨_, rfl⟩
  have HPP := Lib.hid hP
  have wA : IntKind.i64.wrap ((mid : Int) + (m : Int) - 1) = (P : Int) := by rw [IntKind.wrap_i64]; omega
  clear hP
  unfold Merges
  clear h hc ih hbr hmid h1 h2
  go_enter Try.func142, Try.ntmps142
  go_upto_if 140 with fail
  go_cut [20, 21] (fun vs vr wx => vs = .int .i64 s0 ∧ vr = .int .i64 r0 ∧ wx = w)
  case first => as_aux_lemma =>
    rcases HBR.out with ⟨q, q1, q2⟩ | ⟨q, q1, q2⟩
    · have i1 : (mid : Int) < (m : Int) := by omega
      have e1 : (mid : Int) + (m : Int) - (b : Int) = (s0 : Int) := by omega
      have e2 : (mid : Int) = (r0 : Int) := by omega
      clear q1 q2
      go_wp2_with fail
      go_meet
      exact ⟨congrArg (Value.int .i64) (by omega), congrArg (Value.int .i64) (by omega), rfl⟩
    · have i1 : ¬ (mid : Int) < (m : Int) := by omega
      clear q1 q2
      go_wp2_with fail
      go_meet
      exact ⟨congrArg (Value.int .i64) (by rcases HBR.out with ⟨_, _, _⟩ | ⟨_, _, _⟩ <;> omega), congrArg (Value.int .i64) (by rcases HBR.out with ⟨_, _, _⟩ | ⟨_, _, _⟩ <;> omega), rfl⟩
  case rest =>
    obtain ⟨rfl, rfl, rfl⟩ := hcut
    obtain ⟨wo, rfl⟩ : ∃ wo, wo = wc := ⟨_, rfl⟩
    go_wp2
    go_loopw [20, 21] (fun vs vr wr => ∃ (s r : Nat), s0 ≤ s ∧ s ≤ r ∧ r ≤ r0 ∧ vs = .int .i64 s ∧ vr = .int .i64 r ∧ Hid (s = a ∨ mid + m - s = b ∨ dltP d[mid + m - s]! d[s - 1]! = false) ∧ Hid (r = m ∨ mid + m - r = m ∨ dltP d[mid + m - r - 1]! d[r]! = true) ∧ Hid (DRow wr g d) ∧ Within g (g + 1) wo wr) (fun vs vr _ => (intOf vr - intOf vs).toNat)
    case atStart => exact ⟨s0, r0, Nat.le_refl _, by omega, Nat.le_refl _, rfl, rfl, HL0, HH0, HR0, Within.refl _ _ _⟩
    case round =>
      clear HR0 HL0 HH0
      obtain ⟨s, r, hs1, hsr, hr1, rfl, rfl, HL, HH, HR, hW⟩ := hrel
      by_cases hlt : s < r
      · as_aux_lemma =>
        obtain ⟨c, hcc⟩ : ∃ c, (s + r) / 2 = c := ⟨_, rfl⟩
        have hc1 : s ≤ c ∧ c < r := by omega
        obtain ⟨u, hu⟩ : ∃ u, P - c = u := ⟨_, rfl⟩
        have hPP := HPP.out
        have hu1 : u < d.size ∧ u + 1 = mid + m - c ∧ u = mid + m - (c + 1) := by omega
        obtain ⟨cs, hB, hRC⟩ := HR.out
        obtain ⟨⟨pi, hci, hoi⟩, _⟩ := hRC u (by omega)
        obtain ⟨⟨pj, hcj, hoj⟩, _⟩ := hRC c (by omega)
        have HCL := Lib.hid (fun W h1 h2 => HC.out W d[u]!.1 d[c]!.1 pi pj h1 h2)
        obtain ⟨a1, c1, rfl⟩ := hoi.sl.len
        obtain ⟨a2, c2, rfl⟩ := hoj.sl.len
        have HX := Lib.hid hoi.sl
        have HY := Lib.hid hoj.sl
        have HLT := Lib.hid (show dltP d[u]! d[c]! = decide (dcf d[u]!.1 d[c]!.1 < 0) from rfl)
        generalize dcf d[u]!.1 d[c]!.1 = z at HCL HLT
        generalize d[u]!.1 = xi at hci HCL HX
        generalize d[c]!.1 = xj at hcj HCL HY
        obtain ⟨ki, psi, wi, li⟩ := xi
        obtain ⟨kj, psj, wj, lj⟩ := xj
        dsimp only at hci hcj HCL HX HY
        obtain ⟨ni, hni⟩ : ∃ ni, psi.length = ni := ⟨_, rfl⟩
        obtain ⟨nj, hnj⟩ : ∃ nj, psj.length = nj := ⟨_, rfl⟩
        rw [hni] at hci HCL HX
        rw [hnj] at hcj HCL HY
        obtain ⟨p0, p1, p2, p3⟩ := hci
        obtain ⟨q0, q1, q2, q3⟩ := hcj
        have hBc := hB.cell
        have hBl := hB.lt
        have i0 : (s : Int) < (r : Int) := by omega
        have i1 : (0 : Int) ≤ (u : Int) := by omega
        have i2 : (u : Int) < (d.size : Int) := by omega
        have i3 : (c : Int) < (d.size : Int) := by omega
        have i4 : (0 : Int) ≤ (c : Int) := by omega
        have e1 : IntKind.i64.wrap ((s : Int) + (r : Int)) = (s : Int) + (r : Int) := by rw [IntKind.wrap_i64]; omega
        have e2 : IntKind.u64.wrap ((s : Int) + (r : Int)) = (s : Int) + (r : Int) := by simp [IntKind.wrap, IntKind.bits, IntKind.signed]; omega
        have e3 : IntKind.i64.wrap ((P : Int) - (c : Int)) = (u : Int) := by rw [IntKind.wrap_i64]; omega
        have HU := Lib.hid hu1
        clear hni hnj hoi hoj hRC hPP hu hu1
        go_upto_region 35 with fail
        rw [show ((s : Int) + (r : Int)) / 2 = (c : Int) by omega]
        clear hcc
        by_cases hr : z < 0
        · have HLT2 := Lib.hid (HLT.out.trans (decide_eq_true hr))
          go_region_held3 (fun w' => (Blk w' g cs 55 ∧ ∀ o, w'.cell? ⟨g, o, none⟩ = cs[o]?) ∧ Below wr.heap.size wr w') (((try (obtain ⟨⟨hS0, _⟩, hSB⟩ := hHeld)); refine ⟨Blk.both ?_, ?_⟩ <;> first | ((repeat (first | (with_reducible assumption) | (with_reducible refine Blk.drewN ?_ _) | (with_reducible refine Blk.drew ?_) | ((with_reducible refine Blk.new _ ?_); focus (first | omega | (simp; done) | (simp; omega))) | (with_reducible refine Blk.past ?_ _) | ((with_reducible refine Blk.apart ?_ _ _ _ ?_); rotate_left; focus (first | omega | (simp; done) | (simp; omega))) | (with_reducible refine Blk.by (by assumption) ?_))); done) | ((repeat (first | (with_reducible exact Below.refl _ _) | (with_reducible refine below_drewN ?_ _) | (with_reducible refine Below.drew ?_) | (with_reducible refine below_al ?_ _) | (with_reducible refine below_on (by assumption) ?_) | ((with_reducible refine Below.setCell ?_ ?_ _); rotate_left; focus (first | omega | (simp; done) | (simp; omega))) | (with_reducible assumption))); done)))
            (first | (go_at_fn gf; refine (HCL.out _ (HX.out.by (by ((repeat (first | (with_reducible exact Below.refl _ _) | (with_reducible refine below_drewN ?_ _) | (with_reducible refine Below.drew ?_) | (with_reducible refine below_al ?_ _) | (with_reducible refine below_on (by assumption) ?_) | ((with_reducible refine Below.setCell ?_ ?_ _); rotate_left; focus (first | omega | (simp; done) | (simp; omega))) | (with_reducible assumption))); done))) (HY.out.by (by ((repeat (first | (with_reducible exact Below.refl _ _) | (with_reducible refine below_drewN ?_ _) | (with_reducible refine Below.drew ?_) | (with_reducible refine below_al ?_ _) | (with_reducible refine below_on (by assumption) ?_) | ((with_reducible refine Below.setCell ?_ ?_ _); rotate_left; focus (first | omega | (simp; done) | (simp; omega))) | (with_reducible assumption))); done)))).mono ?_; rintro e w1 ⟨rfl, hb1⟩))
          all_goals
            have hb2 : Below wr.heap.size wr w1 := (by ((repeat (first | (with_reducible exact Below.refl _ _) | (with_reducible refine below_drewN ?_ _) | (with_reducible refine Below.drew ?_) | (with_reducible refine below_al ?_ _) | (with_reducible refine below_on (by assumption) ?_) | ((with_reducible refine Below.setCell ?_ ?_ _); rotate_left; focus (first | omega | (simp; done) | (simp; omega))) | (with_reducible assumption))); done))
            go_wp2_with fail
            exact ⟨⟨s, c, by omega, by omega, by omega, rfl, rfl, HL, Lib.hid (.inr (.inr (by rw [← HU.out.2.1]; exact HLT2.out))), Lib.hid (HR.out.by hb2), hW.on (Within.ofBelow hb2)⟩, by simp [intOf]; omega⟩
        · have HLT2 := Lib.hid (HLT.out.trans (decide_eq_false hr))
          have hr2 : (!decide (z < 0)) = true := by simp; omega
          go_region_held3 (fun w' => (Blk w' g cs 55 ∧ ∀ o, w'.cell? ⟨g, o, none⟩ = cs[o]?) ∧ Below wr.heap.size wr w') (((try (obtain ⟨⟨hS0, _⟩, hSB⟩ := hHeld)); refine ⟨Blk.both ?_, ?_⟩ <;> first | ((repeat (first | (with_reducible assumption) | (with_reducible refine Blk.drewN ?_ _) | (with_reducible refine Blk.drew ?_) | ((with_reducible refine Blk.new _ ?_); focus (first | omega | (simp; done) | (simp; omega))) | (with_reducible refine Blk.past ?_ _) | ((with_reducible refine Blk.apart ?_ _ _ _ ?_); rotate_left; focus (first | omega | (simp; done) | (simp; omega))) | (with_reducible refine Blk.by (by assumption) ?_))); done) | ((repeat (first | (with_reducible exact Below.refl _ _) | (with_reducible refine below_drewN ?_ _) | (with_reducible refine Below.drew ?_) | (with_reducible refine below_al ?_ _) | (with_reducible refine below_on (by assumption) ?_) | ((with_reducible refine Below.setCell ?_ ?_ _); rotate_left; focus (first | omega | (simp; done) | (simp; omega))) | (with_reducible assumption))); done)))
            (first | (go_at_fn gf; refine (HCL.out _ (HX.out.by (by ((repeat (first | (with_reducible exact Below.refl _ _) | (with_reducible refine below_drewN ?_ _) | (with_reducible refine Below.drew ?_) | (with_reducible refine below_al ?_ _) | (with_reducible refine below_on (by assumption) ?_) | ((with_reducible refine Below.setCell ?_ ?_ _); rotate_left; focus (first | omega | (simp; done) | (simp; omega))) | (with_reducible assumption))); done))) (HY.out.by (by ((repeat (first | (with_reducible exact Below.refl _ _) | (with_reducible refine below_drewN ?_ _) | (with_reducible refine Below.drew ?_) | (with_reducible refine below_al ?_ _) | (with_reducible refine below_on (by assumption) ?_) | ((with_reducible refine Below.setCell ?_ ?_ _); rotate_left; focus (first | omega | (simp; done) | (simp; omega))) | (with_reducible assumption))); done)))).mono ?_; rintro e w1 ⟨rfl, hb1⟩))
          all_goals
            have hb2 : Below wr.heap.size wr w1 := (by ((repeat (first | (with_reducible exact Below.refl _ _) | (with_reducible refine below_drewN ?_ _) | (with_reducible refine Below.drew ?_) | (with_reducible refine below_al ?_ _) | (with_reducible refine below_on (by assumption) ?_) | ((with_reducible refine Below.setCell ?_ ?_ _); rotate_left; focus (first | omega | (simp; done) | (simp; omega))) | (with_reducible assumption))); done))
            go_wp2_with fail
            exact ⟨⟨c + 1, r, by omega, by omega, by omega, by go_num, rfl, Lib.hid (.inr (.inr (by rw [← HU.out.2.2]; exact HLT2.out))), HH, Lib.hid (HR.out.by hb2), hW.on (Within.ofBelow hb2)⟩, by simp [intOf]; omega⟩
      · obtain rfl : s = r := by omega
        have i3 : ¬ (s : Int) < (s : Int) := by omega
        have has : a ≤ s ∧ s ≤ m ∧ s ≤ mid ∧ mid + m - s ≤ b := by omega
        have HX := Lib.hid (fun d1 hf => HMID.out s d1 has.1 has.2.1 has.2.2.1 has.2.2.2 HL.out HH.out hf)
        obtain ⟨e, he⟩ : ∃ e, mid + m - s = e := ⟨_, rfl⟩
        rw [he] at HX has
        have he1 : m ≤ e ∧ mid ≤ e := by omega
        have HE := Lib.hid he
        have w10 : IntKind.i64.wrap ((mid : Int) + (m : Int) - (s : Int)) = (e : Int) := by rw [IntKind.wrap_i64]; omega
        clear he HL HH
        obtain ⟨cR, hcR⟩ : ∃ c : Bool, decide (s < m ∧ m < e) = c := ⟨_, rfl⟩
        have HcR := Lib.hid hcR
        clear hcR
        go_upto_region 39 with fail
        go_cut [24, 185] (fun ve vb wx => ve = .int .i64 e ∧ vb = .bool cR ∧ wx = wr)
        case first => as_aux_lemma =>
          by_cases x1 : s < m
          · have y1 : (s : Int) < (m : Int) := by omega
            by_cases x2 : m < e
            · have y2 : (m : Int) < (e : Int) := by omega
              go_wp2_with fail
              all_goals (try go_meet)
              exact ⟨rfl, congrArg Value.bool (by rw [← HcR.out]; exact (decide_eq_true ⟨x1, x2⟩).symm), rfl⟩
            · have y2 : ¬ (m : Int) < (e : Int) := by omega
              go_wp2_with fail
              all_goals (try go_meet)
              exact ⟨rfl, congrArg Value.bool (by rw [← HcR.out]; exact (decide_eq_false (fun q => x2 q.2)).symm), rfl⟩
          · have y1 : ¬ (s : Int) < (m : Int) := by omega
            go_wp2_with fail
            all_goals (try go_meet)
            exact ⟨rfl, congrArg Value.bool (by rw [← HcR.out]; exact (decide_eq_false (fun q => x1 q.1)).symm), rfl⟩
        case rest =>
          obtain ⟨rfl, rfl, rfl⟩ := hcut
          go_upto_if 185 with fail
          go_cut [24] (fun ve wx => ve = .int .i64 e ∧ ∃ d1, Hid (DRow wx g d1) ∧ Hid (Fol (rotI s m e) d d1) ∧ Hid (PermIn a b d d1) ∧ Within g (g + 1) wo wx)
          case first => as_aux_lemma =>
            cases cR with
            | true =>
              obtain ⟨hr1, hr2⟩ := of_decide_eq_true HcR.out
              have HCR := Lib.hid (rotate_any g cap s m e (.func (.func gf) #[] lb) d wc HR.out hr1 hr2 (by omega) hsz hcap)
              go_wp2_with (go_at_call 146; refine HCR.out.mono ?_; rintro e1 w1 ⟨rfl, d1, hR1, hF1, hP1, hW1⟩)
              all_goals (try go_meet)
              exact ⟨rfl, d1, Lib.hid hR1, Lib.hid hF1, Lib.hid (PermIn.wide hP1 (by omega) (by omega) hbd), hW.on hW1⟩
            | false =>
              have hno := of_decide_eq_false HcR.out
              have HFI := Lib.hid (Fol.id d (f := rotI s m e) (fun k => rotI_none s m e k (by omega) (by omega) (by omega)))
              go_wp2_with fail
              all_goals (try go_meet)
              exact ⟨rfl, d, HR, HFI, HP0, hW⟩
          case rest =>
            clear HR hW HcR
            obtain ⟨rfl, d1, HR, HF, HP1, hW⟩ := hcut
            obtain ⟨hx, ⟨ha1, ha2⟩, ⟨hb1, hb2⟩⟩ := HX.out d1 HF.out
            have HXX := Lib.hid hx
            have HA1 := Lib.hid ha1
            have HA2 := Lib.hid ha2
            have HB1 := Lib.hid hb1
            have HB2 := Lib.hid hb2
            have HZ1 := Lib.hid (show d1.size = d.size from HP1.out.1)
            clear hx ha1 ha2 hb1 hb2 HF HX
            obtain ⟨cS, hcS⟩ : ∃ c : Bool, decide (a < s ∧ s < mid) = c := ⟨_, rfl⟩
            have HcS := Lib.hid hcS
            clear hcS
            go_upto_region 41 with fail
            go_cut [24, 199] (fun ve vb wx => ve = .int .i64 e ∧ vb = .bool cS ∧ wx = wc)
            case first => as_aux_lemma =>
              by_cases x1 : a < s
              · have y1 : (a : Int) < (s : Int) := by omega
                by_cases x2 : s < mid
                · have y2 : (s : Int) < (mid : Int) := by omega
                  go_wp2_with fail
                  all_goals (try go_meet)
                  exact ⟨rfl, congrArg Value.bool (by rw [← HcS.out]; exact (decide_eq_true ⟨x1, x2⟩).symm), rfl⟩
                · have y2 : ¬ (s : Int) < (mid : Int) := by omega
                  go_wp2_with fail
                  all_goals (try go_meet)
                  exact ⟨rfl, congrArg Value.bool (by rw [← HcS.out]; exact (decide_eq_false (fun q => x2 q.2)).symm), rfl⟩
              · have y1 : ¬ (a : Int) < (s : Int) := by omega
                go_wp2_with fail
                all_goals (try go_meet)
                exact ⟨rfl, congrArg Value.bool (by rw [← HcS.out]; exact (decide_eq_false (fun q => x1 q.1)).symm), rfl⟩
            case rest =>
              obtain ⟨rfl, rfl, rfl⟩ := hcut
              go_upto_if 199 with fail
              go_cut [24] (fun ve wx => ve = .int .i64 e ∧ ∃ d2, Hid (DRow wx g d2) ∧ Hid (SortedIn dltP a mid d2) ∧ Hid (PermIn a mid d1 d2) ∧ Within g (g + 1) wo wx)
              case first => as_aux_lemma =>
                cases cS with
                | true =>
                  obtain ⟨hr1, hr2⟩ := of_decide_eq_true HcS.out
                  have hih := IH.out a s mid d1 wc (by omega) HR.out hr1 hr2 (by rw [HZ1.out]; omega) HZ1.out HA1.out HA2.out
                  unfold Merges at hih
                  rw [HZ1.out] at hih
                  have HCR := Lib.hid hih
                  clear hih
                  go_wp2_with (go_at_call 142; refine HCR.out.mono ?_; rintro e1 w1 ⟨rfl, d2, hR1, hF1, hP1, hW1⟩)
                  all_goals (try go_meet)
                  exact ⟨rfl, d2, Lib.hid hR1, Lib.hid hF1, Lib.hid hP1, hW.on hW1⟩
                | false =>
                  have hno := of_decide_eq_false HcS.out
                  have HSI := Lib.hid (show SortedIn dltP a mid d1 by
                    by_cases q : a < s
                    · have q2 : s = mid := by omega
                      have := HA1.out
                      rwa [q2] at this
                    · have q2 : s = a := by omega
                      have := HA2.out
                      rwa [q2] at this)
                  have HPI := Lib.hid (PermIn.refl' a mid d1)
                  go_wp2_with fail
                  all_goals (try go_meet)
                  exact ⟨rfl, d1, HR, HSI, HPI, hW⟩
              case rest =>
                clear HR hW HcS HA1 HA2
                obtain ⟨rfl, d2, HR, HS2, HP2, hW⟩ := hcut
                have HZ2 := Lib.hid (show d2.size = d.size from HP2.out.1.trans HZ1.out)
                have HB3 := Lib.hid (SortedIn.out HB1.out HP2.out (.inr (Nat.le_refl _)))
                have HB4 := Lib.hid (SortedIn.out HB2.out HP2.out (.inr (by omega)))
                obtain ⟨cT, hcT⟩ : ∃ c : Bool, decide (mid < e ∧ e < b) = c := ⟨_, rfl⟩
                have HcT := Lib.hid hcT
                clear hcT
                go_upto_region 43 with fail
                go_cut [24, 213] (fun ve vb wx => ve = .int .i64 e ∧ vb = .bool cT ∧ wx = wc)
                case first => as_aux_lemma =>
                  by_cases x1 : mid < e
                  · have y1 : (mid : Int) < (e : Int) := by omega
                    by_cases x2 : e < b
                    · have y2 : (e : Int) < (b : Int) := by omega
                      go_wp2_with fail
                      all_goals (try go_meet)
                      exact ⟨rfl, congrArg Value.bool (by rw [← HcT.out]; exact (decide_eq_true ⟨x1, x2⟩).symm), rfl⟩
                    · have y2 : ¬ (e : Int) < (b : Int) := by omega
                      go_wp2_with fail
                      all_goals (try go_meet)
                      exact ⟨rfl, congrArg Value.bool (by rw [← HcT.out]; exact (decide_eq_false (fun q => x2 q.2)).symm), rfl⟩
                  · have y1 : ¬ (mid : Int) < (e : Int) := by omega
                    go_wp2_with fail
                    all_goals (try go_meet)
                    exact ⟨rfl, congrArg Value.bool (by rw [← HcT.out]; exact (decide_eq_false (fun q => x1 q.1)).symm), rfl⟩
                case rest =>
                  obtain ⟨rfl, rfl, rfl⟩ := hcut
                  as_aux_lemma =>
                  cases cT with
                  | true =>
                    obtain ⟨hr1, hr2⟩ := of_decide_eq_true HcT.out
                    have hih := IH.out mid e b d2 wc (by omega) HR.out hr1 hr2 (by rw [HZ2.out]; omega) HZ2.out HB3.out HB4.out
                    unfold Merges at hih
                    rw [HZ2.out] at hih
                    have HCR := Lib.hid hih
                    clear hih
                    go_wp2_with (go_at_call 142; refine HCR.out.mono ?_; rintro e1 w1 ⟨rfl, d3, hR1, hF1, hP1, hW1⟩)
                    go_end0
                    have hdone := merge_done hbd (by omega) (by omega) HP1.out HXX.out HS2.out HP2.out hF1 hP1
                    exact ⟨by rfl, d3, hR1, hdone.1, hdone.2, hW.on hW1⟩
                  | false =>
                    have hno := of_decide_eq_false HcT.out
                    have HSI := Lib.hid (show SortedIn dltP mid b d2 by
                      by_cases q : mid < e
                      · have q2 : e = b := by omega
                        have := HB3.out
                        rwa [q2] at this
                      · have q2 : e = mid := by omega
                        have := HB4.out
                        rwa [q2] at this)
                    go_wp2
                    go_end0
                    have hdone := merge_done hbd (by omega) (by omega) HP1.out HXX.out HS2.out HP2.out HSI.out (PermIn.refl' mid b d2)
                    exact ⟨by rfl, d2, HR.out, hdone.1, hdone.2, hW⟩
end Go.Proofs.Ytpiiccfjkgimfaa
