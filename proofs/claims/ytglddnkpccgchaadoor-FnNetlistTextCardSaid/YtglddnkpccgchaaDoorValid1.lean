/- The reference's validity test of a device. -/
import Derived.Test.YtglddnkpccgchaaDoorValid0
import Derived.Test.YtglddnkpccgchaaDoorNorms
import Derived.Test.YtglddnkpccgchaaDoorFidxs
namespace Go.Proofs.YtglddnkpccgchaaDoor
open Go.RowKit
set_option linter.unusedVariables false
set_option linter.unusedSimpArgs false

set_option maxRecDepth 100000 in
set_option maxHeartbeats 2000000 in
theorem l27Device_any (x : Dv) (sv : Value) (nets : Int) (w : World) (h : IntSl w sv x.pins) (hn : 0 ≤ nets) (hn' : nets ≤ 24) :
    Calls Tryd.prog 45 #[.agg #[.int .i64 x.kind, sv, .int .i64 x.wd, .int .i64 x.len], .int .i64 nets] w fun e w' => e = .returned (.bool (dvB nets x)) ∧ Below w.heap.size w w' := by
  have HK := Lib.hid (@dvB_kind nets x)
  have HL := Lib.hid (@dvB_len nets x)
  have HW := Lib.hid (@dvB_wd nets x)
  have HG := Lib.hid (@dvB_lg nets x)
  have HP := Lib.hid (fun k p => @dvB_pin nets x k p)
  have HE := Lib.hid (@dvB_end nets x)
  obtain ⟨kind, pins, wd, len⟩ := x
  dsimp only at h HK HL HW HG HP HE ⊢
  generalize dvB nets ⟨kind, pins, wd, len⟩ = r at *
  have hle := h.le
  rcases Bool.eq_false_or_eq_true (inB kind 0 2) with hk | hk
  · have hk' := inB_iff.1 hk
    have HK1 := Lib.hid hk
    by_cases hl : pins.length = pinsOf kind
    · have HL1 := Lib.hid hl
      rcases Bool.eq_false_or_eq_true (inB wd 1 1000000) with hw | hw
      · have hw' := inB_iff.1 hw
        have HW1 := Lib.hid hw
        rcases Bool.eq_false_or_eq_true (inB len 1 1000000) with hg | hg
        · have hg' := inB_iff.1 hg
          have HG1 := Lib.hid hg
          have hpos : 0 < pins.length := by rw [hl]; unfold pinsOf; split <;> omega
          rcases h with ⟨_, _, _, e⟩ | ⟨b, off, cap, rfl, h2, h3, h4⟩
          · rw [e] at hpos; simp at hpos
          have h4' : ∀ (k : Nat), k < pins.length → ∃ p, pins[k]? = some p ∧ w.cell? ⟨b, off + k, none⟩ = some (.int .i64 p) := fun k hk => ⟨pins[k], List.getElem?_eq_getElem hk, h4 k _ (List.getElem?_eq_getElem hk)⟩
          have H4 := Lib.hid h4'
          have hbl : b < w.heap.size := by
            obtain ⟨p, _, hc⟩ := h4' 0 hpos
            rcases Nat.lt_or_ge b w.heap.size with h' | h'
            · exact h'
            · simp [World.cell?, Array.getElem?_eq_none h'] at hc
          unfold maxLen at h3
          rcases (by omega : kind ≠ 2 ∨ kind = 2) with hk2 | hk2
          · have hz : (kind == 2) = false := by simpa using hk2
            have hz' : (kind != 2) = true := by simpa using hk2
            have hl' : (pins.length : Int) = 3 := by rw [hl]; simp [pinsOf, hk2]
            have hl3 : ((pins.length : Int) != 3) = false := by simp [hl']
            have hlt3 : pins.length ≤ 3 := by omega
            have HK2 := Lib.hid hk2
            clear hl hl' h4 h4' hk2
            go_enter Tryd.func45, Tryd.ntmps45
            go_wp2_with (go_at_call 44; refine (l16In_any _ _ _ _).mono ?_; rintro e w' ⟨rfl, rfl⟩)
            go_loop [6] (fun i => ∃ k : Nat, k ≤ pins.length ∧ i = .int .i64 k ∧ Hid (∀ j p, j < k → pins[j]? = some p → inB p 0 (nets - 1) = true)) (fun i => pins.length - (intOf i).toNat)
            case atStart => exact ⟨0, Nat.zero_le _, rfl, Lib.hid (by intro j p h; omega)⟩
            case round =>
              obtain ⟨k, hk, rfl, HI⟩ := hrel
              by_cases hlt : k < pins.length
              · obtain ⟨p, hp, hc⟩ := H4.out k hlt
                have HPP := Lib.hid hp
                have i1 : (0 : Int) ≤ (k : Int) := by omega
                have i2 : (k : Int) < (pins.length : Int) := by omega
                clear hp
                rcases Bool.eq_false_or_eq_true (inB p 0 (nets - 1)) with hin | hin
                · have HIN := Lib.hid hin
                  go_wp2_with (go_at_call 44; refine (l16In_any _ _ _ _).mono ?_; rintro e w' ⟨rfl, rfl⟩)
                  go_round
                  case rel => exact ⟨k + 1, by omega, by go_num, Lib.hid (fun j q hj hq => by
                    by_cases e : j = k
                    · subst e; obtain rfl : q = p := Option.some.inj (hq.symm.trans HPP.out); exact HIN.out
                    · exact HI.out j q (by omega) hq)⟩
                  case measure => simp [intOf]; omega
                · have hr := Lib.hid (HP.out k p HPP.out hin)
                  go_wp2_with (go_at_call 44; refine (l16In_any _ _ _ _).mono ?_; rintro e w' ⟨rfl, rfl⟩)
                  go_ret
                  exact ⟨ret_bool hr.out.symm, (by ((repeat (first | (with_reducible exact Below.refl _ _) | (with_reducible refine below_drewN ?_ _) | (with_reducible refine Below.drew ?_) | (with_reducible refine below_al ?_ _) | (with_reducible refine below_on (by assumption) ?_) | ((with_reducible refine Below.setCell ?_ ?_ _); rotate_left; focus (first | omega | (simp; done) | (simp; omega))) | (with_reducible assumption))); done))⟩
              · obtain rfl : k = pins.length := by omega
                have hall : pins.all (fun p => inB p 0 (nets - 1)) = true := by
                  rw [List.all_eq_true]; intro p hp
                  obtain ⟨j, hj, e⟩ := List.mem_iff_getElem.1 hp
                  exact HI.out j p hj (by rw [List.getElem?_eq_getElem hj, e])
                have hr := HE.out HK1.out HL1.out HW1.out HG1.out hall
                clear hall
                have hr' := Lib.hid hr
                clear hr
                go_wp2
                go_ret
                exact ⟨ret_bool (by rw [hr'.out]; simp [HK2.out]), (by ((repeat (first | (with_reducible exact Below.refl _ _) | (with_reducible refine below_drewN ?_ _) | (with_reducible refine Below.drew ?_) | (with_reducible refine below_al ?_ _) | (with_reducible refine below_on (by assumption) ?_) | ((with_reducible refine Below.setCell ?_ ?_ _); rotate_left; focus (first | omega | (simp; done) | (simp; omega))) | (with_reducible assumption))); done))⟩
          · subst hk2
            have hl' : (pins.length : Int) = 2 := by rw [hl]; simp [pinsOf]
            have hl3 : ((pins.length : Int) != 2) = false := by simp [hl']
            have hlt3 : pins.length ≤ 3 := by omega
            clear hl hl' h4 h4'
            go_enter Tryd.func45, Tryd.ntmps45
            go_wp2_with (go_at_call 44; refine (l16In_any _ _ _ _).mono ?_; rintro e w' ⟨rfl, rfl⟩)
            go_loop [6] (fun i => ∃ k : Nat, k ≤ pins.length ∧ i = .int .i64 k ∧ Hid (∀ j p, j < k → pins[j]? = some p → inB p 0 (nets - 1) = true)) (fun i => pins.length - (intOf i).toNat)
            case atStart => exact ⟨0, Nat.zero_le _, rfl, Lib.hid (by intro j p h; omega)⟩
            case round =>
              obtain ⟨k, hk, rfl, HI⟩ := hrel
              by_cases hlt : k < pins.length
              · obtain ⟨p, hp, hc⟩ := H4.out k hlt
                have HPP := Lib.hid hp
                have i1 : (0 : Int) ≤ (k : Int) := by omega
                have i2 : (k : Int) < (pins.length : Int) := by omega
                clear hp
                rcases Bool.eq_false_or_eq_true (inB p 0 (nets - 1)) with hin | hin
                · have HIN := Lib.hid hin
                  go_wp2_with (go_at_call 44; refine (l16In_any _ _ _ _).mono ?_; rintro e w' ⟨rfl, rfl⟩)
                  go_round
                  case rel => exact ⟨k + 1, by omega, by go_num, Lib.hid (fun j q hj hq => by
                    by_cases e : j = k
                    · subst e; obtain rfl : q = p := Option.some.inj (hq.symm.trans HPP.out); exact HIN.out
                    · exact HI.out j q (by omega) hq)⟩
                  case measure => simp [intOf]; omega
                · have hr := Lib.hid (HP.out k p HPP.out hin)
                  go_wp2_with (go_at_call 44; refine (l16In_any _ _ _ _).mono ?_; rintro e w' ⟨rfl, rfl⟩)
                  go_ret
                  exact ⟨ret_bool hr.out.symm, (by ((repeat (first | (with_reducible exact Below.refl _ _) | (with_reducible refine below_drewN ?_ _) | (with_reducible refine Below.drew ?_) | (with_reducible refine below_al ?_ _) | (with_reducible refine below_on (by assumption) ?_) | ((with_reducible refine Below.setCell ?_ ?_ _); rotate_left; focus (first | omega | (simp; done) | (simp; omega))) | (with_reducible assumption))); done))⟩
              · obtain rfl : k = pins.length := by omega
                have hall : pins.all (fun p => inB p 0 (nets - 1)) = true := by
                  rw [List.all_eq_true]; intro p hp
                  obtain ⟨j, hj, e⟩ := List.mem_iff_getElem.1 hp
                  exact HI.out j p hj (by rw [List.getElem?_eq_getElem hj, e])
                have hr := HE.out HK1.out HL1.out HW1.out HG1.out hall
                clear hall
                have hr' := Lib.hid hr
                have HGG := Lib.hid (show Int.gcd wd len = Int.gcd wd len from rfl)
                clear hr
                go_wp2_with (go_at_call 76; refine (l26Gcd_as _ _ (wd.gcd len) _ rfl (by omega) (by omega) (by omega) (by omega)).mono ?_; rintro e w' ⟨rfl, nq, rfl⟩)
                go_ret
                exact ⟨ret_bool (by rw [hr'.out, Bool.eq_iff_iff]; simp; try omega), (by ((repeat (first | (with_reducible exact Below.refl _ _) | (with_reducible refine below_drewN ?_ _) | (with_reducible refine Below.drew ?_) | (with_reducible refine below_al ?_ _) | (with_reducible refine below_on (by assumption) ?_) | ((with_reducible refine Below.setCell ?_ ?_ _); rotate_left; focus (first | omega | (simp; done) | (simp; omega))) | (with_reducible assumption))); done))⟩
        · have hr := Lib.hid (HG.out hg)
          obtain ⟨a, c, rfl⟩ := h.len
          rcases (by omega : kind ≠ 2 ∨ kind = 2) with hk2 | hk2
          · have hz : (kind == 2) = false := by simpa using hk2
            have hl3 : ((pins.length : Int) != 3) = false := by simp [hl, pinsOf, hk2]
            clear hl hk2
            go_enter Tryd.func45, Tryd.ntmps45
            go_wp2_with (go_at_call 44; refine (l16In_any _ _ _ _).mono ?_; rintro e w' ⟨rfl, rfl⟩)
            go_ret
            exact ⟨ret_bool hr.out.symm, (by ((repeat (first | (with_reducible exact Below.refl _ _) | (with_reducible refine below_drewN ?_ _) | (with_reducible refine Below.drew ?_) | (with_reducible refine below_al ?_ _) | (with_reducible refine below_on (by assumption) ?_) | ((with_reducible refine Below.setCell ?_ ?_ _); rotate_left; focus (first | omega | (simp; done) | (simp; omega))) | (with_reducible assumption))); done))⟩
          · subst hk2
            have hl3 : ((pins.length : Int) != 2) = false := by simp [hl, pinsOf]
            clear hl
            go_enter Tryd.func45, Tryd.ntmps45
            go_wp2_with (go_at_call 44; refine (l16In_any _ _ _ _).mono ?_; rintro e w' ⟨rfl, rfl⟩)
            go_ret
            exact ⟨ret_bool hr.out.symm, (by ((repeat (first | (with_reducible exact Below.refl _ _) | (with_reducible refine below_drewN ?_ _) | (with_reducible refine Below.drew ?_) | (with_reducible refine below_al ?_ _) | (with_reducible refine below_on (by assumption) ?_) | ((with_reducible refine Below.setCell ?_ ?_ _); rotate_left; focus (first | omega | (simp; done) | (simp; omega))) | (with_reducible assumption))); done))⟩
      · have hr := Lib.hid (HW.out hw)
        obtain ⟨a, c, rfl⟩ := h.len
        rcases (by omega : kind ≠ 2 ∨ kind = 2) with hk2 | hk2
        · have hz : (kind == 2) = false := by simpa using hk2
          have hl3 : ((pins.length : Int) != 3) = false := by simp [hl, pinsOf, hk2]
          clear hl hk2
          go_enter Tryd.func45, Tryd.ntmps45
          go_wp2_with (go_at_call 44; refine (l16In_any _ _ _ _).mono ?_; rintro e w' ⟨rfl, rfl⟩)
          go_ret
          exact ⟨ret_bool hr.out.symm, (by ((repeat (first | (with_reducible exact Below.refl _ _) | (with_reducible refine below_drewN ?_ _) | (with_reducible refine Below.drew ?_) | (with_reducible refine below_al ?_ _) | (with_reducible refine below_on (by assumption) ?_) | ((with_reducible refine Below.setCell ?_ ?_ _); rotate_left; focus (first | omega | (simp; done) | (simp; omega))) | (with_reducible assumption))); done))⟩
        · subst hk2
          have hl3 : ((pins.length : Int) != 2) = false := by simp [hl, pinsOf]
          clear hl
          go_enter Tryd.func45, Tryd.ntmps45
          go_wp2_with (go_at_call 44; refine (l16In_any _ _ _ _).mono ?_; rintro e w' ⟨rfl, rfl⟩)
          go_ret
          exact ⟨ret_bool hr.out.symm, (by ((repeat (first | (with_reducible exact Below.refl _ _) | (with_reducible refine below_drewN ?_ _) | (with_reducible refine Below.drew ?_) | (with_reducible refine below_al ?_ _) | (with_reducible refine below_on (by assumption) ?_) | ((with_reducible refine Below.setCell ?_ ?_ _); rotate_left; focus (first | omega | (simp; done) | (simp; omega))) | (with_reducible assumption))); done))⟩
    · have hr := Lib.hid (HL.out hl)
      obtain ⟨a, c, rfl⟩ := h.len
      rcases (by omega : kind ≠ 2 ∨ kind = 2) with hk2 | hk2
      · have hz : (kind == 2) = false := by simpa using hk2
        have hl3 : ((pins.length : Int) != 3) = true := by simp [pinsOf, hk2] at hl; simp; omega
        clear hl hk2
        go_enter Tryd.func45, Tryd.ntmps45
        go_wp2_with (go_at_call 44; refine (l16In_any _ _ _ _).mono ?_; rintro e w' ⟨rfl, rfl⟩)
        go_ret
        exact ⟨ret_bool hr.out.symm, (by ((repeat (first | (with_reducible exact Below.refl _ _) | (with_reducible refine below_drewN ?_ _) | (with_reducible refine Below.drew ?_) | (with_reducible refine below_al ?_ _) | (with_reducible refine below_on (by assumption) ?_) | ((with_reducible refine Below.setCell ?_ ?_ _); rotate_left; focus (first | omega | (simp; done) | (simp; omega))) | (with_reducible assumption))); done))⟩
      · subst hk2
        have hl3 : ((pins.length : Int) != 2) = true := by simp [pinsOf] at hl; simp; omega
        clear hl
        go_enter Tryd.func45, Tryd.ntmps45
        go_wp2_with (go_at_call 44; refine (l16In_any _ _ _ _).mono ?_; rintro e w' ⟨rfl, rfl⟩)
        go_ret
        exact ⟨ret_bool hr.out.symm, (by ((repeat (first | (with_reducible exact Below.refl _ _) | (with_reducible refine below_drewN ?_ _) | (with_reducible refine Below.drew ?_) | (with_reducible refine below_al ?_ _) | (with_reducible refine below_on (by assumption) ?_) | ((with_reducible refine Below.setCell ?_ ?_ _); rotate_left; focus (first | omega | (simp; done) | (simp; omega))) | (with_reducible assumption))); done))⟩
  · have hr := Lib.hid (HK.out hk)
    have hk2 : kind ≠ 2 := by rintro rfl; simp [inB] at hk
    have hz : (kind == 2) = false := by simpa using hk2
    obtain ⟨a, c, rfl⟩ := h.len
    clear hk2
    go_enter Tryd.func45, Tryd.ntmps45
    go_wp2_with (go_at_call 44; refine (l16In_any _ _ _ _).mono ?_; rintro e w' ⟨rfl, rfl⟩)
    go_ret
    exact ⟨ret_bool hr.out.symm, (by ((repeat (first | (with_reducible exact Below.refl _ _) | (with_reducible refine below_drewN ?_ _) | (with_reducible refine Below.drew ?_) | (with_reducible refine below_al ?_ _) | (with_reducible refine below_on (by assumption) ?_) | ((with_reducible refine Below.setCell ?_ ?_ _); rotate_left; focus (first | omega | (simp; done) | (simp; omega))) | (with_reducible assumption))); done))⟩
end Go.Proofs.YtglddnkpccgchaaDoor

/- The program's validity test of a device. -/
namespace Go.Proofs.YtglddnkpccgchaaDoor
open Go.RowKit
set_option linter.unusedVariables false
set_option linter.unusedSimpArgs false

set_option maxRecDepth 100000 in
theorem vdClosure_any (p nets : Int) (B : Nat) (W : World) (hc : W.cell? ⟨B, 0, none⟩ = some (.int .i64 nets)) (hn : 0 ≤ nets) (hn' : nets ≤ 24) :
    Calls Tryd.prog 79 #[.int .i64 p, .pointer (some ⟨B, 0, none⟩)] W fun e w' => e = .returned (.bool (!inB p 0 (nets - 1))) ∧ W = w' := by
  go_enter Tryd.func79, Tryd.ntmps79
  go_wp2_with (go_at_call 47; refine (within_any _ _ _ _).mono ?_; rintro e w' ⟨rfl, rfl⟩)
  go_ret
  exact ⟨rfl, rfl⟩

theorem pins_any (nets : Int) (pins : List Int) : (pins.any fun p => !inB p 0 (nets - 1)) = !(pins.all fun p => inB p 0 (nets - 1)) := by
  induction pins with
  | nil => rfl
  | cons x xs ih => simp [ih]

set_option maxRecDepth 100000 in
set_option maxHeartbeats 2000000 in
theorem validDevice_any (x : Dv) (sv : Value) (nets : Int) (w : World) (h : IntSl w sv x.pins) (hn : 0 ≤ nets) (hn' : nets ≤ 24) :
    Calls Tryd.prog 51 #[.agg #[.int .i64 x.kind, sv, .int .i64 x.wd, .int .i64 x.len], .int .i64 nets] w fun e w' => e = .returned (.bool (dvB nets x)) ∧ Below w.heap.size w w' := by
  have HK := Lib.hid (@dvB_kind nets x)
  have HL := Lib.hid (@dvB_len nets x)
  have HW := Lib.hid (@dvB_wd nets x)
  have HG := Lib.hid (@dvB_lg nets x)
  have HPA : (x.pins.all (fun p => inB p 0 (nets - 1))) = false → dvB nets x = false := by intro h; simp [dvB, h]
  replace HPA := Lib.hid HPA
  have HE := Lib.hid (@dvB_end nets x)
  obtain ⟨kind, pins, wd, len⟩ := x
  dsimp only at h HK HL HW HG HPA HE ⊢
  generalize dvB nets ⟨kind, pins, wd, len⟩ = r at *
  have hle := h.le
  have eg : ∀ args w, (callFunc 79 args).run Tryd.prog w = .ok (.enter 79 args) w := enters_of Tryd.func79 (by kernel_rfl) rfl
  have hcl : ∀ (B : Nat) (w0 W : World) (x : Int), w0.cell? ⟨B, 0, none⟩ = some (.int .i64 nets) → Below w0.heap.size w0 W → Calls Tryd.prog 79 (#[.int .i64 x] ++ #[.pointer (some ⟨B, 0, none⟩)]) W fun e w' => e = .returned (.bool (!inB x 0 (nets - 1))) ∧ Below W.heap.size W w' := by
    intro B w0 W x hc hb
    show Calls Tryd.prog 79 #[.int .i64 x, .pointer (some ⟨B, 0, none⟩)] W _
    refine (vdClosure_any x nets B W (cell_by' hb hc) hn hn').mono ?_
    rintro e w' ⟨rfl, rfl⟩
    exact ⟨rfl, Below.refl _ _⟩
  have hw2 := ((Below.refl _ w).alloc (Nat.le_refl _) (.cells #[.int .i64 kind, sv, .int .i64 wd, .int .i64 len] 52)).alloc (by simp) (.cells #[.int .i64 nets] 2)
  have HC := Lib.hid (containsFuncI_any 79 #[.pointer (some ⟨w.heap.size + 1, 0, none⟩)] eg (fun p => !inB p 0 (nets - 1)) sv pins _ (h.by hw2) (fun W x hb _ => hcl (w.heap.size + 1) _ W x (by simp) hb))
  rw [pins_any] at HC
  clear hcl eg hw2
  have HPC := Lib.hid (fun w => pinCount_any kind w)
  have hmf : ∀ (fn : Fn) (first cap : Array Value) (w : World), (Instr.makeFunc fn first cap).run Tryd.prog w = .ok (.func fn first cap) w := fun _ _ _ _ => rfl
  obtain ⟨a, c, rfl⟩ := h.len
  rcases Bool.eq_false_or_eq_true (inB kind 0 2) with hk | hk
  · have hk' := inB_iff.1 hk
    have HK1 := Lib.hid hk
    obtain ⟨q, hq⟩ : ∃ q : Int, pinc kind = q := ⟨_, rfl⟩
    have hq3 : q = 2 ∨ q = 3 := by unfold pinc at hq; repeat' (split at hq); all_goals omega
    have hq0 : (q == 0) = false := by rw [beq_eq_false_iff_ne]; omega
    have hqp : (pinsOf kind : Int) = q := by rw [← hq]; unfold pinc pinsOf; rcases (by omega : kind = 0 ∨ kind = 1 ∨ kind = 2) with rfl | rfl | rfl <;> rfl
    rw [hq] at HPC
    clear hq
    by_cases hl : pins.length = pinsOf kind
    · have HL1 := Lib.hid hl
      have hl' : ((pins.length : Int) != q) = false := by simp [hl, hqp]
      clear hl hqp
      rcases Bool.eq_false_or_eq_true (pins.all (fun p => inB p 0 (nets - 1))) with hp | hp
      · have HP1 := Lib.hid hp
        rw [hp] at HC
        clear hp
        rcases Bool.eq_false_or_eq_true (inB wd 1 1000000) with hw | hw
        · have hw' := inB_iff.1 hw
          have HW1 := Lib.hid hw
          rcases Bool.eq_false_or_eq_true (inB len 1 1000000) with hg | hg
          · have hg' := inB_iff.1 hg
            have HG1 := Lib.hid hg
            have HR := Lib.hid (HE.out HK1.out HL1.out HW1.out HG1.out HP1.out)
            have HVR := Lib.hid (show vrB wd len = decide (Int.gcd wd len = 1) from vrB_of wd (by omega))
            by_cases hk2 : kind = 2
            · subst hk2
              go_enter Tryd.func51, Tryd.ntmps51
              go_wp2_with (first | (go_at_call 71; refine (HPC.out _).mono ?_; rintro e w' ⟨rfl, rfl⟩) | (go_at_call 47; refine (within_any _ _ _ _).mono ?_; rintro e w' ⟨rfl, rfl⟩) | (go_at_call 78; refine HC.out.mono ?_; rintro e w1 ⟨rfl, hb1⟩; have k0 : Blk w1 w.heap.size #[.int .i64 2, .slice a pins.length c, .int .i64 wd, .int .i64 len] 52 := (by ((repeat (first | (with_reducible assumption) | (with_reducible refine Blk.drewN ?_ _) | (with_reducible refine Blk.drew ?_) | ((with_reducible refine Blk.new _ ?_); focus (first | omega | (simp; done) | (simp; omega))) | (with_reducible refine Blk.past ?_ _) | ((with_reducible refine Blk.apart ?_ _ _ _ ?_); rotate_left; focus (first | omega | (simp; done) | (simp; omega))) | (with_reducible refine Blk.by (by assumption) ?_))); done)); have c0 := k0.cell) | (go_at_call 80; refine (validRatio_any _ _ _ (by omega) (by omega) (by omega) (by omega)).mono ?_; rintro e w2 ⟨rfl, hb2⟩))
              go_ret
              exact ⟨ret_bool (by rw [HVR.out, HR.out]; simp), (by ((repeat (first | (with_reducible exact Below.refl _ _) | (with_reducible refine below_drewN ?_ _) | (with_reducible refine Below.drew ?_) | (with_reducible refine below_al ?_ _) | (with_reducible refine below_on (by assumption) ?_) | ((with_reducible refine Below.setCell ?_ ?_ _); rotate_left; focus (first | omega | (simp; done) | (simp; omega))) | (with_reducible assumption))); done))⟩
            · have hz' : (kind != 2) = true := by simpa using hk2
              have HK2 := Lib.hid hk2
              clear hk2
              go_enter Tryd.func51, Tryd.ntmps51
              go_wp2_with (first | (go_at_call 71; refine (HPC.out _).mono ?_; rintro e w' ⟨rfl, rfl⟩) | (go_at_call 47; refine (within_any _ _ _ _).mono ?_; rintro e w' ⟨rfl, rfl⟩) | (go_at_call 78; refine HC.out.mono ?_; rintro e w1 ⟨rfl, hb1⟩; have k0 : Blk w1 w.heap.size #[.int .i64 kind, .slice a pins.length c, .int .i64 wd, .int .i64 len] 52 := (by ((repeat (first | (with_reducible assumption) | (with_reducible refine Blk.drewN ?_ _) | (with_reducible refine Blk.drew ?_) | ((with_reducible refine Blk.new _ ?_); focus (first | omega | (simp; done) | (simp; omega))) | (with_reducible refine Blk.past ?_ _) | ((with_reducible refine Blk.apart ?_ _ _ _ ?_); rotate_left; focus (first | omega | (simp; done) | (simp; omega))) | (with_reducible refine Blk.by (by assumption) ?_))); done)); have c0 := k0.cell))
              go_ret
              exact ⟨ret_bool (by rw [HR.out]; simp [HK2.out]), (by ((repeat (first | (with_reducible exact Below.refl _ _) | (with_reducible refine below_drewN ?_ _) | (with_reducible refine Below.drew ?_) | (with_reducible refine below_al ?_ _) | (with_reducible refine below_on (by assumption) ?_) | ((with_reducible refine Below.setCell ?_ ?_ _); rotate_left; focus (first | omega | (simp; done) | (simp; omega))) | (with_reducible assumption))); done))⟩
          · have hr := Lib.hid (HG.out hg)
            go_enter Tryd.func51, Tryd.ntmps51
            go_wp2_with (first | (go_at_call 71; refine (HPC.out _).mono ?_; rintro e w' ⟨rfl, rfl⟩) | (go_at_call 47; refine (within_any _ _ _ _).mono ?_; rintro e w' ⟨rfl, rfl⟩) | (go_at_call 78; refine HC.out.mono ?_; rintro e w1 ⟨rfl, hb1⟩; have k0 : Blk w1 w.heap.size #[.int .i64 kind, .slice a pins.length c, .int .i64 wd, .int .i64 len] 52 := (by ((repeat (first | (with_reducible assumption) | (with_reducible refine Blk.drewN ?_ _) | (with_reducible refine Blk.drew ?_) | ((with_reducible refine Blk.new _ ?_); focus (first | omega | (simp; done) | (simp; omega))) | (with_reducible refine Blk.past ?_ _) | ((with_reducible refine Blk.apart ?_ _ _ _ ?_); rotate_left; focus (first | omega | (simp; done) | (simp; omega))) | (with_reducible refine Blk.by (by assumption) ?_))); done)); have c0 := k0.cell))
            go_ret
            exact ⟨ret_bool hr.out.symm, (by ((repeat (first | (with_reducible exact Below.refl _ _) | (with_reducible refine below_drewN ?_ _) | (with_reducible refine Below.drew ?_) | (with_reducible refine below_al ?_ _) | (with_reducible refine below_on (by assumption) ?_) | ((with_reducible refine Below.setCell ?_ ?_ _); rotate_left; focus (first | omega | (simp; done) | (simp; omega))) | (with_reducible assumption))); done))⟩
        · have hr := Lib.hid (HW.out hw)
          go_enter Tryd.func51, Tryd.ntmps51
          go_wp2_with (first | (go_at_call 71; refine (HPC.out _).mono ?_; rintro e w' ⟨rfl, rfl⟩) | (go_at_call 47; refine (within_any _ _ _ _).mono ?_; rintro e w' ⟨rfl, rfl⟩) | (go_at_call 78; refine HC.out.mono ?_; rintro e w1 ⟨rfl, hb1⟩; have k0 : Blk w1 w.heap.size #[.int .i64 kind, .slice a pins.length c, .int .i64 wd, .int .i64 len] 52 := (by ((repeat (first | (with_reducible assumption) | (with_reducible refine Blk.drewN ?_ _) | (with_reducible refine Blk.drew ?_) | ((with_reducible refine Blk.new _ ?_); focus (first | omega | (simp; done) | (simp; omega))) | (with_reducible refine Blk.past ?_ _) | ((with_reducible refine Blk.apart ?_ _ _ _ ?_); rotate_left; focus (first | omega | (simp; done) | (simp; omega))) | (with_reducible refine Blk.by (by assumption) ?_))); done)); have c0 := k0.cell))
          go_ret
          exact ⟨ret_bool hr.out.symm, (by ((repeat (first | (with_reducible exact Below.refl _ _) | (with_reducible refine below_drewN ?_ _) | (with_reducible refine Below.drew ?_) | (with_reducible refine below_al ?_ _) | (with_reducible refine below_on (by assumption) ?_) | ((with_reducible refine Below.setCell ?_ ?_ _); rotate_left; focus (first | omega | (simp; done) | (simp; omega))) | (with_reducible assumption))); done))⟩
      · have hr := Lib.hid (HPA.out hp)
        rw [hp] at HC
        clear hp
        go_enter Tryd.func51, Tryd.ntmps51
        go_wp2_with (first | (go_at_call 71; refine (HPC.out _).mono ?_; rintro e w' ⟨rfl, rfl⟩) | (go_at_call 78; refine HC.out.mono ?_; rintro e w1 ⟨rfl, hb1⟩))
        go_ret
        exact ⟨ret_bool hr.out.symm, (by ((repeat (first | (with_reducible exact Below.refl _ _) | (with_reducible refine below_drewN ?_ _) | (with_reducible refine Below.drew ?_) | (with_reducible refine below_al ?_ _) | (with_reducible refine below_on (by assumption) ?_) | ((with_reducible refine Below.setCell ?_ ?_ _); rotate_left; focus (first | omega | (simp; done) | (simp; omega))) | (with_reducible assumption))); done))⟩
    · have hr := Lib.hid (HL.out hl)
      have hl' : ((pins.length : Int) != q) = true := by rw [bne_iff_ne]; omega
      clear hl hqp
      go_enter Tryd.func51, Tryd.ntmps51
      go_wp2_with (go_at_call 71; refine (HPC.out _).mono ?_; rintro e w' ⟨rfl, rfl⟩)
      go_ret
      exact ⟨ret_bool hr.out.symm, (by ((repeat (first | (with_reducible exact Below.refl _ _) | (with_reducible refine below_drewN ?_ _) | (with_reducible refine Below.drew ?_) | (with_reducible refine below_al ?_ _) | (with_reducible refine below_on (by assumption) ?_) | ((with_reducible refine Below.setCell ?_ ?_ _); rotate_left; focus (first | omega | (simp; done) | (simp; omega))) | (with_reducible assumption))); done))⟩
  · have hr := Lib.hid (HK.out hk)
    have hq : pinc kind = 0 := by
      have := inB_not.1 hk
      unfold pinc; rw [if_neg (by omega), if_neg (by omega), if_neg (by omega)]
    rw [hq] at HPC
    clear hq
    go_enter Tryd.func51, Tryd.ntmps51
    go_wp2_with (go_at_call 71; refine (HPC.out _).mono ?_; rintro e w' ⟨rfl, rfl⟩)
    go_ret
    exact ⟨ret_bool hr.out.symm, (by ((repeat (first | (with_reducible exact Below.refl _ _) | (with_reducible refine below_drewN ?_ _) | (with_reducible refine Below.drew ?_) | (with_reducible refine below_al ?_ _) | (with_reducible refine below_on (by assumption) ?_) | ((with_reducible refine Below.setCell ?_ ?_ _); rotate_left; focus (first | omega | (simp; done) | (simp; omega))) | (with_reducible assumption))); done))⟩
end Go.Proofs.YtglddnkpccgchaaDoor
