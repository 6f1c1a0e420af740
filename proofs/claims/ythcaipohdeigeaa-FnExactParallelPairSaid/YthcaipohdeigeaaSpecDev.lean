/- The reference's validity test of a device. -/
import Derived.Test.YthcaipohdeigeaaGcdA
import Derived.Test.YthcaipohdeigeaaVDevM
namespace Go.Proofs.Ythcaipohdeigeaa
open Go.RowKit
set_option linter.unusedVariables false
set_option linter.unusedSimpArgs false

set_option maxRecDepth 100000 in
set_option maxHeartbeats 2000000 in
theorem l27Device_any (x : Dv) (sv : Value) (nets : Int) (w : World) (h : IntSl w sv x.pins) (hn : 0 ≤ nets) (hn' : nets ≤ 24) :
    Calls Try.prog 69 #[.agg #[.int .i64 x.kind, sv, .int .i64 x.wd, .int .i64 x.len], .int .i64 nets] w fun e w' => e = .returned (.bool (dvB nets x)) ∧ Below w.heap.size w w' := by
  have HK := Lib.hid (@dvB_kind nets x)
  have HL := Lib.hid (@dvB_len nets x)
  have HW := Lib.hid (@dvB_wd nets x)
  have HG := Lib.hid (@dvB_lg nets x)
  have HP := Lib.hid (fun k p => @dvB_pin nets x k p)
  have HE := Lib.hid (@dvB_end nets x)
  obtain ⟨kind, pins, wd, len⟩ := x
  dsimp only at h HK HL HW HG HP HE ⊢
  generalize dvB nets ⟨kind, pins, wd, len⟩ = r at *
  have hle := h.le
  rcases Bool.eq_false_or_eq_true (inB kind 0 2) with hk | hk
  · have hk' := inB_iff.1 hk
    have HK1 := Lib.hid hk
    by_cases hl : pins.length = pinsOf kind
    · have HL1 := Lib.hid hl
      rcases Bool.eq_false_or_eq_true (inB wd 1 1000000) with hw | hw
      · have hw' := inB_iff.1 hw
        have HW1 := Lib.hid hw
        rcases Bool.eq_false_or_eq_true (inB len 1 1000000) with hg | hg
        · have hg' := inB_iff.1 hg
          have HG1 := Lib.hid hg
          have hpos : 0 < pins.length := by rw [hl]; unfold pinsOf; split <;> omega
          rcases h with ⟨_, _, _, e⟩ | ⟨b, off, cap, rfl, h2, h3, h4⟩
          · rw [e] at hpos; simp at hpos
          have h4' : ∀ (k : Nat), k < pins.length → ∃ p, pins[k]? = some p ∧ w.cell? ⟨b, off + k, none⟩ = some (.int .i64 p) := fun k hk => ⟨pins[k], List.getElem?_eq_getElem hk, h4 k _ (List.getElem?_eq_getElem hk)⟩
          have H4 := Lib.hid h4'
          have hbl : b < w.heap.size := by
            obtain ⟨p, _, hc⟩ := h4' 0 hpos
            rcases Nat.lt_or_ge b w.heap.size with h' | h'
            · exact h'
            · simp [World.cell?, Array.getElem?_eq_none h'] at hc
          unfold maxLen at h3
          rcases (by omega : kind ≠ 2 ∨ kind = 2) with hk2 | hk2
          · have hz : (kind == 2) = false := by simpa using hk2
            have hz' : (kind != 2) = true := by simpa using hk2
            have hl' : (pins.length : Int) = 3 := by rw [hl]; simp [pinsOf, hk2]
            have hl3 : ((pins.length : Int) != 3) = false := by simp [hl']
            have hlt3 : pins.length ≤ 3 := by omega
            have HK2 := Lib.hid hk2
            clear hl hl' h4 h4' hk2
            go_enter Try.func69, Try.ntmps69
            go_wp2_with (go_at_call 68; refine (l16In_any _ _ _ _).mono ?_; rintro e w' ⟨rfl, rfl⟩)
            go_loop [6] (fun i => ∃ k : Nat, k ≤ pins.length ∧ i = .int .i64 k ∧ Hid (∀ j p, j < k → pins[j]? = some p → inB p 0 (nets - 1) = true)) (fun i => pins.length - (intOf i).toNat)
            case atStart => exact ⟨0, Nat.zero_le _, rfl, Lib.hid (by intro j p h; omega)⟩
            case round =>
              obtain ⟨k, hk, rfl, HI⟩ := hrel
              by_cases hlt : k < pins.length
              · obtain ⟨p, hp, hc⟩ := H4.out k hlt
                have HPP := Lib.hid hp
                have i1 : (0 : Int) ≤ (k : Int) := by omega
                have i2 : (k : Int) < (pins.length : Int) := by omega
                clear hp
                rcases Bool.eq_false_or_eq_true (inB p 0 (nets - 1)) with hin | hin
                · have HIN := Lib.hid hin
                  go_wp2_with (go_at_call 68; refine (l16In_any _ _ _ _).mono ?_; rintro e w' ⟨rfl, rfl⟩)
                  go_round
                  case rel => exact ⟨k + 1, by omega, by go_num, Lib.hid (fun j q hj hq => by
                    by_cases e : j = k
                    · subst e; obtain rfl : q = p := Option.some.inj (hq.symm.trans HPP.out); exact HIN.out
                    · exact HI.out j q (by omega) hq)⟩
                  case measure => simp [intOf]; omega
                · have hr := Lib.hid (HP.out k p HPP.out hin)
                  go_wp2_with (go_at_call 68; refine (l16In_any _ _ _ _).mono ?_; rintro e w' ⟨rfl, rfl⟩)
                  go_ret
                  exact ⟨ret_bool hr.out.symm, (by ((repeat (first | (with_reducible exact Below.refl _ _) | (with_reducible refine below_drewN ?_ _) | (with_reducible refine Below.drew ?_) | (with_reducible refine below_al ?_ _) | (with_reducible refine below_on (by assumption) ?_) | ((with_reducible refine Below.setCell ?_ ?_ _); rotate_left; focus (first | omega | (simp; done) | (simp; omega))) | (with_reducible assumption))); done))⟩
              · obtain rfl : k = pins.length := by omega
                have hall : pins.all (fun p => inB p 0 (nets - 1)) = true := by
                  rw [List.all_eq_true]; intro p hp
                  obtain ⟨j, hj, e⟩ := List.mem_iff_getElem.1 hp
                  exact HI.out j p hj (by rw [List.getElem?_eq_getElem hj, e])
                have hr := HE.out HK1.out HL1.out HW1.out HG1.out hall
                clear hall
                have hr' := Lib.hid hr
                clear hr
                go_wp2
                go_ret
                exact ⟨ret_bool (by rw [hr'.out]; simp [HK2.out]), (by ((repeat (first | (with_reducible exact Below.refl _ _) | (with_reducible refine below_drewN ?_ _) | (with_reducible refine Below.drew ?_) | (with_reducible refine below_al ?_ _) | (with_reducible refine below_on (by assumption) ?_) | ((with_reducible refine Below.setCell ?_ ?_ _); rotate_left; focus (first | omega | (simp; done) | (simp; omega))) | (with_reducible assumption))); done))⟩
          · subst hk2
            have hl' : (pins.length : Int) = 2 := by rw [hl]; simp [pinsOf]
            have hl3 : ((pins.length : Int) != 2) = false := by simp [hl']
            have hlt3 : pins.length ≤ 3 := by omega
            clear hl hl' h4 h4'
            go_enter Try.func69, Try.ntmps69
            go_wp2_with (go_at_call 68; refine (l16In_any _ _ _ _).mono ?_; rintro e w' ⟨rfl, rfl⟩)
            go_loop [6] (fun i => ∃ k : Nat, k ≤ pins.length ∧ i = .int .i64 k ∧ Hid (∀ j p, j < k → pins[j]? = some p → inB p 0 (nets - 1) = true)) (fun i => pins.length - (intOf i).toNat)
            case atStart => exact ⟨0, Nat.zero_le _, rfl, Lib.hid (by intro j p h; omega)⟩
            case round =>
              obtain ⟨k, hk, rfl, HI⟩ := hrel
              by_cases hlt : k < pins.length
              · obtain ⟨p, hp, hc⟩ := H4.out k hlt
                have HPP := Lib.hid hp
                have i1 : (0 : Int) ≤ (k : Int) := by omega
                have i2 : (k : Int) < (pins.length : Int) := by omega
                clear hp
                rcases Bool.eq_false_or_eq_true (inB p 0 (nets - 1)) with hin | hin
                · have HIN := Lib.hid hin
                  go_wp2_with (go_at_call 68; refine (l16In_any _ _ _ _).mono ?_; rintro e w' ⟨rfl, rfl⟩)
                  go_round
                  case rel => exact ⟨k + 1, by omega, by go_num, Lib.hid (fun j q hj hq => by
                    by_cases e : j = k
                    · subst e; obtain rfl : q = p := Option.some.inj (hq.symm.trans HPP.out); exact HIN.out
                    · exact HI.out j q (by omega) hq)⟩
                  case measure => simp [intOf]; omega
                · have hr := Lib.hid (HP.out k p HPP.out hin)
                  go_wp2_with (go_at_call 68; refine (l16In_any _ _ _ _).mono ?_; rintro e w' ⟨rfl, rfl⟩)
                  go_ret
                  exact ⟨ret_bool hr.out.symm, (by ((repeat (first | (with_reducible exact Below.refl _ _) | (with_reducible refine below_drewN ?_ _) | (with_reducible refine Below.drew ?_) | (with_reducible refine below_al ?_ _) | (with_reducible refine below_on (by assumption) ?_) | ((with_reducible refine Below.setCell ?_ ?_ _); rotate_left; focus (first | omega | (simp; done) | (simp; omega))) | (with_reducible assumption))); done))⟩
              · obtain rfl : k = pins.length := by omega
                have hall : pins.all (fun p => inB p 0 (nets - 1)) = true := by
                  rw [List.all_eq_true]; intro p hp
                  obtain ⟨j, hj, e⟩ := List.mem_iff_getElem.1 hp
                  exact HI.out j p hj (by rw [List.getElem?_eq_getElem hj, e])
                have hr := HE.out HK1.out HL1.out HW1.out HG1.out hall
                clear hall
                have hr' := Lib.hid hr
                have HGG := Lib.hid (show Int.gcd wd len = Int.gcd wd len from rfl)
                clear hr
                go_wp2_with (go_at_call 110; refine (l26Gcd_as _ _ (wd.gcd len) _ rfl (by omega) (by omega) (by omega) (by omega)).mono ?_; rintro e w' ⟨rfl, nq, rfl⟩)
                go_ret
                exact ⟨ret_bool (by rw [hr'.out, Bool.eq_iff_iff]; simp; try omega), (by ((repeat (first | (with_reducible exact Below.refl _ _) | (with_reducible refine below_drewN ?_ _) | (with_reducible refine Below.drew ?_) | (with_reducible refine below_al ?_ _) | (with_reducible refine below_on (by assumption) ?_) | ((with_reducible refine Below.setCell ?_ ?_ _); rotate_left; focus (first | omega | (simp; done) | (simp; omega))) | (with_reducible assumption))); done))⟩
        · have hr := Lib.hid (HG.out hg)
          obtain ⟨a, c, rfl⟩ := h.len
          rcases (by omega : kind ≠ 2 ∨ kind = 2) with hk2 | hk2
          · have hz : (kind == 2) = false := by simpa using hk2
            have hl3 : ((pins.length : Int) != 3) = false := by simp [hl, pinsOf, hk2]
            clear hl hk2
            go_enter Try.func69, Try.ntmps69
            go_wp2_with (go_at_call 68; refine (l16In_any _ _ _ _).mono ?_; rintro e w' ⟨rfl, rfl⟩)
            go_ret
            exact ⟨ret_bool hr.out.symm, (by ((repeat (first | (with_reducible exact Below.refl _ _) | (with_reducible refine below_drewN ?_ _) | (with_reducible refine Below.drew ?_) | (with_reducible refine below_al ?_ _) | (with_reducible refine below_on (by assumption) ?_) | ((with_reducible refine Below.setCell ?_ ?_ _); rotate_left; focus (first | omega | (simp; done) | (simp; omega))) | (with_reducible assumption))); done))⟩
          · subst hk2
            have hl3 : ((pins.length : Int) != 2) = false := by simp [hl, pinsOf]
            clear hl
            go_enter Try.func69, Try.ntmps69
            go_wp2_with (go_at_call 68; refine (l16In_any _ _ _ _).mono ?_; rintro e w' ⟨rfl, rfl⟩)
            go_ret
            exact ⟨ret_bool hr.out.symm, (by ((repeat (first | (with_reducible exact Below.refl _ _) | (with_reducible refine below_drewN ?_ _) | (with_reducible refine Below.drew ?_) | (with_reducible refine below_al ?_ _) | (with_reducible refine below_on (by assumption) ?_) | ((with_reducible refine Below.setCell ?_ ?_ _); rotate_left; focus (first | omega | (simp; done) | (simp; omega))) | (with_reducible assumption))); done))⟩
      · have hr := Lib.hid (HW.out hw)
        obtain ⟨a, c, rfl⟩ := h.len
        rcases (by omega : kind ≠ 2 ∨ kind = 2) with hk2 | hk2
        · have hz : (kind == 2) = false := by simpa using hk2
          have hl3 : ((pins.length : Int) != 3) = false := by simp [hl, pinsOf, hk2]
          clear hl hk2
          go_enter Try.func69, Try.ntmps69
          go_wp2_with (go_at_call 68; refine (l16In_any _ _ _ _).mono ?_; rintro e w' ⟨rfl, rfl⟩)
          go_ret
          exact ⟨ret_bool hr.out.symm, (by ((repeat (first | (with_reducible exact Below.refl _ _) | (with_reducible refine below_drewN ?_ _) | (with_reducible refine Below.drew ?_) | (with_reducible refine below_al ?_ _) | (with_reducible refine below_on (by assumption) ?_) | ((with_reducible refine Below.setCell ?_ ?_ _); rotate_left; focus (first | omega | (simp; done) | (simp; omega))) | (with_reducible assumption))); done))⟩
        · subst hk2
          have hl3 : ((pins.length : Int) != 2) = false := by simp [hl, pinsOf]
          clear hl
          go_enter Try.func69, Try.ntmps69
          go_wp2_with (go_at_call 68; refine (l16In_any _ _ _ _).mono ?_; rintro e w' ⟨rfl, rfl⟩)
          go_ret
          exact ⟨ret_bool hr.out.symm, (by ((repeat (first | (with_reducible exact Below.refl _ _) | (with_reducible refine below_drewN ?_ _) | (with_reducible refine Below.drew ?_) | (with_reducible refine below_al ?_ _) | (with_reducible refine below_on (by assumption) ?_) | ((with_reducible refine Below.setCell ?_ ?_ _); rotate_left; focus (first | omega | (simp; done) | (simp; omega))) | (with_reducible assumption))); done))⟩
    · have hr := Lib.hid (HL.out hl)
      obtain ⟨a, c, rfl⟩ := h.len
      rcases (by omega : kind ≠ 2 ∨ kind = 2) with hk2 | hk2
      · have hz : (kind == 2) = false := by simpa using hk2
        have hl3 : ((pins.length : Int) != 3) = true := by simp [pinsOf, hk2] at hl; simp; omega
        clear hl hk2
        go_enter Try.func69, Try.ntmps69
        go_wp2_with (go_at_call 68; refine (l16In_any _ _ _ _).mono ?_; rintro e w' ⟨rfl, rfl⟩)
        go_ret
        exact ⟨ret_bool hr.out.symm, (by ((repeat (first | (with_reducible exact Below.refl _ _) | (with_reducible refine below_drewN ?_ _) | (with_reducible refine Below.drew ?_) | (with_reducible refine below_al ?_ _) | (with_reducible refine below_on (by assumption) ?_) | ((with_reducible refine Below.setCell ?_ ?_ _); rotate_left; focus (first | omega | (simp; done) | (simp; omega))) | (with_reducible assumption))); done))⟩
      · subst hk2
        have hl3 : ((pins.length : Int) != 2) = true := by simp [pinsOf] at hl; simp; omega
        clear hl
        go_enter Try.func69, Try.ntmps69
        go_wp2_with (go_at_call 68; refine (l16In_any _ _ _ _).mono ?_; rintro e w' ⟨rfl, rfl⟩)
        go_ret
        exact ⟨ret_bool hr.out.symm, (by ((repeat (first | (with_reducible exact Below.refl _ _) | (with_reducible refine below_drewN ?_ _) | (with_reducible refine Below.drew ?_) | (with_reducible refine below_al ?_ _) | (with_reducible refine below_on (by assumption) ?_) | ((with_reducible refine Below.setCell ?_ ?_ _); rotate_left; focus (first | omega | (simp; done) | (simp; omega))) | (with_reducible assumption))); done))⟩
  · have hr := Lib.hid (HK.out hk)
    have hk2 : kind ≠ 2 := by rintro rfl; simp [inB] at hk
    have hz : (kind == 2) = false := by simpa using hk2
    obtain ⟨a, c, rfl⟩ := h.len
    clear hk2
    go_enter Try.func69, Try.ntmps69
    go_wp2_with (go_at_call 68; refine (l16In_any _ _ _ _).mono ?_; rintro e w' ⟨rfl, rfl⟩)
    go_ret
    exact ⟨ret_bool hr.out.symm, (by ((repeat (first | (with_reducible exact Below.refl _ _) | (with_reducible refine below_drewN ?_ _) | (with_reducible refine Below.drew ?_) | (with_reducible refine below_al ?_ _) | (with_reducible refine below_on (by assumption) ?_) | ((with_reducible refine Below.setCell ?_ ?_ _); rotate_left; focus (first | omega | (simp; done) | (simp; omega))) | (with_reducible assumption))); done))⟩
end Go.Proofs.Ythcaipohdeigeaa
