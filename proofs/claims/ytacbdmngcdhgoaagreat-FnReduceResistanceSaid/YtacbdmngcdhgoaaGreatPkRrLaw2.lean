/- Contracts and plain laws, part 2, for the statement's proof. -/
import Derived.Test.YtacbdmngcdhgoaaGreatPkRrLaw1
import Derived.Shelf.Abstract
import Derived.WalkLawsBesides
import Derived.Deep.AppendLies
import Derived.Lib.SliceRun
import Derived.Deep.DeepCutAuto
import Derived.Deep.RegionLaw
import Derived.BigRegion
import Derived.Deep.RegionHeld3
import Derived.Deep.RegionHeldLaw
namespace Go.Proofs.YtacbdmngcdhgoaaGreat
open Go.RowKit
set_option linter.unusedVariables false
set_option linter.unusedSimpArgs false
set_option maxRecDepth 100000 in
set_option maxHeartbeats 1000000 in
theorem indexFuncI_any (g : Nat) (lb : Array Value) (eg : ∀ args w, (callFunc g args).run Tryz.prog w = .ok (.enter g args) w) (p : Int → Bool) (s0 : Value) (xs : List Int) (w : World) (h : IntSl w s0 xs)
    (hp : ∀ (W : World) (x : Int), Below w.heap.size w W → x ∈ xs → Calls Tryz.prog g (#[.int .i64 x] ++ lb) W fun e w' => e = .returned (.bool (p x)) ∧ Below W.heap.size W w') :
    Calls Tryz.prog 110 #[s0, .func (.func g) #[] lb] w fun e w' => e = .returned (.int .i64 (fidx p xs)) ∧ Below w.heap.size w w' := by
  have HH := Lib.hid (fun k x => @fidx_hit Int p xs k x)
  have HM := Lib.hid (@fidx_miss Int p xs)
  have HP := Lib.hid hp
  clear hp
  rcases h with ⟨a, c, rfl, rfl⟩ | ⟨b, off, cap, rfl, h2, h3, h4⟩
  · have hr := Lib.hid (HM.out (by simp))
    generalize fidx p [] = r at *
    go_enter Tryz.func110, Tryz.ntmps110
    go_wp2
    go_loopw [8] (fun i wr => i = .int .i64 0 ∧ wr = w) (fun _ _ => 0)
    case atStart => exact ⟨rfl, rfl⟩
    case round =>
      obtain ⟨rfl, rfl⟩ := hrel
      go_wp2
      go_ret
      exact ⟨ret_i64 hr.out.symm, Below.refl _ _⟩
  · generalize fidx p xs = r at *
    unfold maxLen at h3
    go_enter Tryz.func110, Tryz.ntmps110
    go_wp2
    go_loopw [5, 8] (fun _ i wr => ∃ k : Nat, k ≤ xs.length ∧ i = .int .i64 k ∧ Hid (∀ j y, j < k → xs[j]? = some y → p y = false) ∧ Below w.heap.size w wr) (fun _ i _ => xs.length - (intOf i).toNat)
    case atStart => exact ⟨0, Nat.zero_le _, rfl, Lib.hid (by intro j y hj; omega), Below.refl _ _⟩
    case round =>
      obtain ⟨k, hk, rfl, HI, hb⟩ := hrel
      by_cases hlt : k < xs.length
      · obtain ⟨x, hx⟩ : ∃ x, xs[k]? = some x := ⟨xs[k], List.getElem?_eq_getElem hlt⟩
        have hmem : x ∈ xs := List.mem_of_getElem? hx
        have c1 := cell_by' hb (h4 k x hx)
        have hcall := HP.out wr x hb hmem
        have HX := Lib.hid hx
        have i1 : (0 : Int) ≤ (k : Int) := by omega
        have i2 : (k : Int) < (xs.length : Int) := by omega
        skip
        clear h4 hx
        cases hq : p x with
        | true =>
          rw [hq] at hcall
          have HQ := Lib.hid hq
          have HC := Lib.hid hcall
          clear hq hcall
          go_wp2_with (go_at_fn g; refine HC.out.mono ?_; rintro e w1 ⟨rfl, hb1⟩)
          go_ret
          exact ⟨ret_i64 (HH.out k x HX.out HQ.out HI.out).symm, below_on hb1 hb⟩
        | false =>
          rw [hq] at hcall
          have HQ := Lib.hid hq
          have HC := Lib.hid hcall
          clear hq hcall
          go_wp2_with (go_at_fn g; refine HC.out.mono ?_; rintro e w1 ⟨rfl, hb1⟩)
          exact ⟨⟨k + 1, by omega, by go_num, Lib.hid (fun j y hj hy => by
            by_cases e : j = k
            · subst e; obtain rfl : y = x := Option.some.inj (hy.symm.trans HX.out); exact HQ.out
            · exact HI.out j y (by omega) hy), below_on hb1 hb⟩, by simp [intOf]; omega⟩
      · obtain rfl : k = xs.length := by omega
        have hr := Lib.hid (HM.out (fun j y hy => HI.out j y (List.getElem?_eq_some_iff.1 hy).1 hy))
        go_wp2
        go_ret
        exact ⟨ret_i64 hr.out.symm, hb⟩
set_option maxRecDepth 100000 in
set_option maxHeartbeats 1000000 in
theorem containsFuncI_any (g : Nat) (lb : Array Value) (eg : ∀ args w, (callFunc g args).run Tryz.prog w = .ok (.enter g args) w) (p : Int → Bool) (s0 : Value) (xs : List Int) (w : World) (h : IntSl w s0 xs)
    (hp : ∀ (W : World) (x : Int), Below w.heap.size w W → x ∈ xs → Calls Tryz.prog g (#[.int .i64 x] ++ lb) W fun e w' => e = .returned (.bool (p x)) ∧ Below W.heap.size W w') :
    Calls Tryz.prog 75 #[s0, .func (.func g) #[] lb] w fun e w' => e = .returned (.bool (xs.any p)) ∧ Below w.heap.size w w' := by
  have HI := Lib.hid (fun w h hp => indexFuncI_any g lb eg p s0 xs w h hp)
  have HA := Lib.hid (@fidx_any Int p xs)
  have HP := Lib.hid hp
  have HS := Lib.hid h
  obtain ⟨a, c, rfl⟩ := h.len
  generalize xs.any p = r at *
  generalize fidx p xs = q at *
  clear hp h
  go_enter Tryz.func75, Tryz.ntmps75
  go_wp2_with fail
  refine (HI.out _ HS.out HP.out).mono ?_
  rintro e w1 ⟨rfl, hb1⟩
  go_wp2
  go_ret
  exact ⟨ret_bool HA.out, hb1⟩
/- slices.IndexFunc and slices.ContainsFunc over a closure: at Dv. -/
set_option maxRecDepth 100000 in
set_option maxHeartbeats 1000000 in
theorem indexFuncD_any (g : Nat) (lb : Array Value) (eg : ∀ args w, (callFunc g args).run Tryz.prog w = .ok (.enter g args) w) (p : Dv → Bool) (s0 : Value) (xs : List Dv) (w : World) (h : DvSl w s0 xs)
    (hp : ∀ (W : World) (x : Dv) (sv : Value), Below w.heap.size w W → x ∈ xs → IntSl W sv x.pins → Calls Tryz.prog g (#[.agg #[.int .i64 x.kind, sv, .int .i64 x.wd, .int .i64 x.len]] ++ lb) W fun e w' => e = .returned (.bool (p x)) ∧ Below W.heap.size W w') :
    Calls Tryz.prog 43 #[s0, .func (.func g) #[] lb] w fun e w' => e = .returned (.int .i64 (fidx p xs)) ∧ Below w.heap.size w w' := by
  have HH := Lib.hid (fun k x => @fidx_hit Dv p xs k x)
  have HM := Lib.hid (@fidx_miss Dv p xs)
  have HP := Lib.hid hp
  clear hp
  rcases h with ⟨a, c, rfl, rfl⟩ | ⟨b, off, cap, rfl, h2, h3, h4⟩
  · have hr := Lib.hid (HM.out (by simp))
    generalize fidx p [] = r at *
    go_enter Tryz.func43, Tryz.ntmps43
    go_wp2
    go_loopw [8] (fun i wr => i = .int .i64 0 ∧ wr = w) (fun _ _ => 0)
    case atStart => exact ⟨rfl, rfl⟩
    case round =>
      obtain ⟨rfl, rfl⟩ := hrel
      go_wp2
      go_ret
      exact ⟨ret_i64 hr.out.symm, Below.refl _ _⟩
  · generalize fidx p xs = r at *
    unfold maxLen at h3
    go_enter Tryz.func43, Tryz.ntmps43
    go_wp2
    go_loopw [5, 8] (fun _ i wr => ∃ k : Nat, k ≤ xs.length ∧ i = .int .i64 k ∧ Hid (∀ j y, j < k → xs[j]? = some y → p y = false) ∧ Below w.heap.size w wr) (fun _ i _ => xs.length - (intOf i).toNat)
    case atStart => exact ⟨0, Nat.zero_le _, rfl, Lib.hid (by intro j y hj; omega), Below.refl _ _⟩
    case round =>
      obtain ⟨k, hk, rfl, HI, hb⟩ := hrel
      by_cases hlt : k < xs.length
      · obtain ⟨x, hx⟩ : ∃ x, xs[k]? = some x := ⟨xs[k], List.getElem?_eq_getElem hlt⟩
        have hmem : x ∈ xs := List.mem_of_getElem? hx
        obtain ⟨sv, c1, c2, c3, c4, hS⟩ := (h4 k x hx).by hb
        have hcall := HP.out wr x sv hb hmem hS
        have HX := Lib.hid hx
        have i1 : (0 : Int) ≤ (k : Int) := by omega
        have i2 : (k : Int) < (xs.length : Int) := by omega
        obtain ⟨a1, c1', rfl⟩ := hS.len
        clear h4 hx
        cases hq : p x with
        | true =>
          rw [hq] at hcall
          have HQ := Lib.hid hq
          have HC := Lib.hid hcall
          clear hq hcall
          go_wp2_with (go_at_fn g; refine HC.out.mono ?_; rintro e w1 ⟨rfl, hb1⟩)
          go_ret
          exact ⟨ret_i64 (HH.out k x HX.out HQ.out HI.out).symm, below_on hb1 hb⟩
        | false =>
          rw [hq] at hcall
          have HQ := Lib.hid hq
          have HC := Lib.hid hcall
          clear hq hcall
          go_wp2_with (go_at_fn g; refine HC.out.mono ?_; rintro e w1 ⟨rfl, hb1⟩)
          exact ⟨⟨k + 1, by omega, by go_num, Lib.hid (fun j y hj hy => by
            by_cases e : j = k
            · subst e; obtain rfl : y = x := Option.some.inj (hy.symm.trans HX.out); exact HQ.out
            · exact HI.out j y (by omega) hy), below_on hb1 hb⟩, by simp [intOf]; omega⟩
      · obtain rfl : k = xs.length := by omega
        have hr := Lib.hid (HM.out (fun j y hy => HI.out j y (List.getElem?_eq_some_iff.1 hy).1 hy))
        go_wp2
        go_ret
        exact ⟨ret_i64 hr.out.symm, hb⟩
set_option maxRecDepth 100000 in
set_option maxHeartbeats 1000000 in
theorem containsFuncD_any (g : Nat) (lb : Array Value) (eg : ∀ args w, (callFunc g args).run Tryz.prog w = .ok (.enter g args) w) (p : Dv → Bool) (s0 : Value) (xs : List Dv) (w : World) (h : DvSl w s0 xs)
    (hp : ∀ (W : World) (x : Dv) (sv : Value), Below w.heap.size w W → x ∈ xs → IntSl W sv x.pins → Calls Tryz.prog g (#[.agg #[.int .i64 x.kind, sv, .int .i64 x.wd, .int .i64 x.len]] ++ lb) W fun e w' => e = .returned (.bool (p x)) ∧ Below W.heap.size W w') :
    Calls Tryz.prog 14 #[s0, .func (.func g) #[] lb] w fun e w' => e = .returned (.bool (xs.any p)) ∧ Below w.heap.size w w' := by
  have HI := Lib.hid (fun w h hp => indexFuncD_any g lb eg p s0 xs w h hp)
  have HA := Lib.hid (@fidx_any Dv p xs)
  have HP := Lib.hid hp
  have HS := Lib.hid h
  obtain ⟨a, c, rfl⟩ := h.sized
  generalize xs.any p = r at *
  generalize fidx p xs = q at *
  clear hp h
  go_enter Tryz.func14, Tryz.ntmps14
  go_wp2_with fail
  refine (HI.out _ HS.out HP.out).mono ?_
  rintro e w1 ⟨rfl, hb1⟩
  go_wp2
  go_ret
  exact ⟨ret_bool HA.out, hb1⟩
/- slices.IndexFunc and slices.ContainsFunc over a closure: at Pt. -/
set_option maxRecDepth 100000 in
set_option maxHeartbeats 1000000 in
theorem indexFuncP_any (g : Nat) (lb : Array Value) (eg : ∀ args w, (callFunc g args).run Tryz.prog w = .ok (.enter g args) w) (p : Pt → Bool) (s0 : Value) (xs : List Pt) (w : World) (h : PtSl w s0 xs)
    (hp : ∀ (W : World) (x : Pt), Below w.heap.size w W → x ∈ xs → Calls Tryz.prog g (#[.agg #[.string x.name, .int .i64 x.net]] ++ lb) W fun e w' => e = .returned (.bool (p x)) ∧ Below W.heap.size W w') :
    Calls Tryz.prog 41 #[s0, .func (.func g) #[] lb] w fun e w' => e = .returned (.int .i64 (fidx p xs)) ∧ Below w.heap.size w w' := by
  have HH := Lib.hid (fun k x => @fidx_hit Pt p xs k x)
  have HM := Lib.hid (@fidx_miss Pt p xs)
  have HP := Lib.hid hp
  clear hp
  rcases h with ⟨a, c, rfl, rfl⟩ | ⟨b, off, cap, rfl, h2, h3, h4⟩
  · have hr := Lib.hid (HM.out (by simp))
    generalize fidx p [] = r at *
    go_enter Tryz.func41, Tryz.ntmps41
    go_wp2
    go_loopw [8] (fun i wr => i = .int .i64 0 ∧ wr = w) (fun _ _ => 0)
    case atStart => exact ⟨rfl, rfl⟩
    case round =>
      obtain ⟨rfl, rfl⟩ := hrel
      go_wp2
      go_ret
      exact ⟨ret_i64 hr.out.symm, Below.refl _ _⟩
  · generalize fidx p xs = r at *
    unfold maxLen at h3
    go_enter Tryz.func41, Tryz.ntmps41
    go_wp2
    go_loopw [5, 8] (fun _ i wr => ∃ k : Nat, k ≤ xs.length ∧ i = .int .i64 k ∧ Hid (∀ j y, j < k → xs[j]? = some y → p y = false) ∧ Below w.heap.size w wr) (fun _ i _ => xs.length - (intOf i).toNat)
    case atStart => exact ⟨0, Nat.zero_le _, rfl, Lib.hid (by intro j y hj; omega), Below.refl _ _⟩
    case round =>
      obtain ⟨k, hk, rfl, HI, hb⟩ := hrel
      by_cases hlt : k < xs.length
      · obtain ⟨x, hx⟩ : ∃ x, xs[k]? = some x := ⟨xs[k], List.getElem?_eq_getElem hlt⟩
        have hmem : x ∈ xs := List.mem_of_getElem? hx
        obtain ⟨c1, c2⟩ := (h4 k x hx).by hb
        have hcall := HP.out wr x hb hmem
        have HX := Lib.hid hx
        have i1 : (0 : Int) ≤ (k : Int) := by omega
        have i2 : (k : Int) < (xs.length : Int) := by omega
        skip
        clear h4 hx
        cases hq : p x with
        | true =>
          rw [hq] at hcall
          have HQ := Lib.hid hq
          have HC := Lib.hid hcall
          clear hq hcall
          go_wp2_with (go_at_fn g; refine HC.out.mono ?_; rintro e w1 ⟨rfl, hb1⟩)
          go_ret
          exact ⟨ret_i64 (HH.out k x HX.out HQ.out HI.out).symm, below_on hb1 hb⟩
        | false =>
          rw [hq] at hcall
          have HQ := Lib.hid hq
          have HC := Lib.hid hcall
          clear hq hcall
          go_wp2_with (go_at_fn g; refine HC.out.mono ?_; rintro e w1 ⟨rfl, hb1⟩)
          exact ⟨⟨k + 1, by omega, by go_num, Lib.hid (fun j y hj hy => by
            by_cases e : j = k
            · subst e; obtain rfl : y = x := Option.some.inj (hy.symm.trans HX.out); exact HQ.out
            · exact HI.out j y (by omega) hy), below_on hb1 hb⟩, by simp [intOf]; omega⟩
      · obtain rfl : k = xs.length := by omega
        have hr := Lib.hid (HM.out (fun j y hy => HI.out j y (List.getElem?_eq_some_iff.1 hy).1 hy))
        go_wp2
        go_ret
        exact ⟨ret_i64 hr.out.symm, hb⟩
set_option maxRecDepth 100000 in
set_option maxHeartbeats 1000000 in
theorem containsFuncP_any (g : Nat) (lb : Array Value) (eg : ∀ args w, (callFunc g args).run Tryz.prog w = .ok (.enter g args) w) (p : Pt → Bool) (s0 : Value) (xs : List Pt) (w : World) (h : PtSl w s0 xs)
    (hp : ∀ (W : World) (x : Pt), Below w.heap.size w W → x ∈ xs → Calls Tryz.prog g (#[.agg #[.string x.name, .int .i64 x.net]] ++ lb) W fun e w' => e = .returned (.bool (p x)) ∧ Below W.heap.size W w') :
    Calls Tryz.prog 98 #[s0, .func (.func g) #[] lb] w fun e w' => e = .returned (.bool (xs.any p)) ∧ Below w.heap.size w w' := by
  have HI := Lib.hid (fun w h hp => indexFuncP_any g lb eg p s0 xs w h hp)
  have HA := Lib.hid (@fidx_any Pt p xs)
  have HP := Lib.hid hp
  have HS := Lib.hid h
  obtain ⟨a, c, rfl⟩ := h.sized
  generalize xs.any p = r at *
  generalize fidx p xs = q at *
  clear hp h
  go_enter Tryz.func98, Tryz.ntmps98
  go_wp2_with fail
  refine (HI.out _ HS.out HP.out).mono ?_
  rintro e w1 ⟨rfl, hb1⟩
  go_wp2
  go_ret
  exact ⟨ret_bool HA.out, hb1⟩
set_option maxRecDepth 100000 in
set_option maxHeartbeats 2000000 in
theorem l27Device_any (x : Dv) (sv : Value) (nets : Int) (w : World) (h : IntSl w sv x.pins) (hn : 0 ≤ nets) (hn' : nets ≤ 24) :
    Calls Tryz.prog 64 #[.agg #[.int .i64 x.kind, sv, .int .i64 x.wd, .int .i64 x.len], .int .i64 nets] w fun e w' => e = .returned (.bool (dvB nets x)) ∧ Below w.heap.size w w' := by
  have HK := Lib.hid (@dvB_kind nets x)
  have HL := Lib.hid (@dvB_len nets x)
  have HW := Lib.hid (@dvB_wd nets x)
  have HG := Lib.hid (@dvB_lg nets x)
  have HP := Lib.hid (fun k p => @dvB_pin nets x k p)
  have HE := Lib.hid (@dvB_end nets x)
  obtain ⟨kind, pins, wd, len⟩ := x
  dsimp only at h HK HL HW HG HP HE ⊢
  generalize dvB nets ⟨kind, pins, wd, len⟩ = r at *
  have hle := h.le
  rcases Bool.eq_false_or_eq_true (inB kind 0 2) with hk | hk
  · have hk' := inB_iff.1 hk
    have HK1 := Lib.hid hk
    by_cases hl : pins.length = pinsOf kind
    · have HL1 := Lib.hid hl
      rcases Bool.eq_false_or_eq_true (inB wd 1 1000000) with hw | hw
      · have hw' := inB_iff.1 hw
        have HW1 := Lib.hid hw
        rcases Bool.eq_false_or_eq_true (inB len 1 1000000) with hg | hg
        · have hg' := inB_iff.1 hg
          have HG1 := Lib.hid hg
          have hpos : 0 < pins.length := by rw [hl]; unfold pinsOf; split <;> omega
          rcases h with ⟨_, _, _, e⟩ | ⟨b, off, cap, rfl, h2, h3, h4⟩
          · rw [e] at hpos; simp at hpos
          have h4' : ∀ (k : Nat), k < pins.length → ∃ p, pins[k]? = some p ∧ w.cell? ⟨b, off + k, none⟩ = some (.int .i64 p) := fun k hk => ⟨pins[k], List.getElem?_eq_getElem hk, h4 k _ (List.getElem?_eq_getElem hk)⟩
          have H4 := Lib.hid h4'
          have hbl : b < w.heap.size := by
            obtain ⟨p, _, hc⟩ := h4' 0 hpos
            rcases Nat.lt_or_ge b w.heap.size with h' | h'
            · exact h'
            · simp [World.cell?, Array.getElem?_eq_none h'] at hc
          unfold maxLen at h3
          rcases (by omega : kind ≠ 2 ∨ kind = 2) with hk2 | hk2
          · have hz : (kind == 2) = false := by simpa using hk2
            have hz' : (kind != 2) = true := by simpa using hk2
            have hl' : (pins.length : Int) = 3 := by rw [hl]; simp [pinsOf, hk2]
            have hl3 : ((pins.length : Int) != 3) = false := by simp [hl']
            have hlt3 : pins.length ≤ 3 := by omega
            have HK2 := Lib.hid hk2
            clear hl hl' h4 h4' hk2
            go_enter Tryz.func64, Tryz.ntmps64
            go_wp2_with (go_at_call 63; refine (l16In_any _ _ _ _).mono ?_; rintro e w' ⟨rfl, rfl⟩)
            go_loop [6] (fun i => ∃ k : Nat, k ≤ pins.length ∧ i = .int .i64 k ∧ Hid (∀ j p, j < k → pins[j]? = some p → inB p 0 (nets - 1) = true)) (fun i => pins.length - (intOf i).toNat)
            case atStart => exact ⟨0, Nat.zero_le _, rfl, Lib.hid (by intro j p h; omega)⟩
            case round =>
              obtain ⟨k, hk, rfl, HI⟩ := hrel
              by_cases hlt : k < pins.length
              · obtain ⟨p, hp, hc⟩ := H4.out k hlt
                have HPP := Lib.hid hp
                have i1 : (0 : Int) ≤ (k : Int) := by omega
                have i2 : (k : Int) < (pins.length : Int) := by omega
                clear hp
                rcases Bool.eq_false_or_eq_true (inB p 0 (nets - 1)) with hin | hin
                · have HIN := Lib.hid hin
                  go_wp2_with (go_at_call 63; refine (l16In_any _ _ _ _).mono ?_; rintro e w' ⟨rfl, rfl⟩)
                  go_round
                  case rel => exact ⟨k + 1, by omega, by go_num, Lib.hid (fun j q hj hq => by
                    by_cases e : j = k
                    · subst e; obtain rfl : q = p := Option.some.inj (hq.symm.trans HPP.out); exact HIN.out
                    · exact HI.out j q (by omega) hq)⟩
                  case measure => simp [intOf]; omega
                · have hr := Lib.hid (HP.out k p HPP.out hin)
                  go_wp2_with (go_at_call 63; refine (l16In_any _ _ _ _).mono ?_; rintro e w' ⟨rfl, rfl⟩)
                  go_ret
                  exact ⟨ret_bool hr.out.symm, blwT⟩
              · obtain rfl : k = pins.length := by omega
                have hall : pins.all (fun p => inB p 0 (nets - 1)) = true := by
                  rw [List.all_eq_true]; intro p hp
                  obtain ⟨j, hj, e⟩ := List.mem_iff_getElem.1 hp
                  exact HI.out j p hj (by rw [List.getElem?_eq_getElem hj, e])
                have hr := HE.out HK1.out HL1.out HW1.out HG1.out hall
                clear hall
                have hr' := Lib.hid hr
                clear hr
                go_wp2
                go_ret
                exact ⟨ret_bool (by rw [hr'.out]; simp [HK2.out]), blwT⟩
          · subst hk2
            have hl' : (pins.length : Int) = 2 := by rw [hl]; simp [pinsOf]
            have hl3 : ((pins.length : Int) != 2) = false := by simp [hl']
            have hlt3 : pins.length ≤ 3 := by omega
            clear hl hl' h4 h4'
            go_enter Tryz.func64, Tryz.ntmps64
            go_wp2_with (go_at_call 63; refine (l16In_any _ _ _ _).mono ?_; rintro e w' ⟨rfl, rfl⟩)
            go_loop [6] (fun i => ∃ k : Nat, k ≤ pins.length ∧ i = .int .i64 k ∧ Hid (∀ j p, j < k → pins[j]? = some p → inB p 0 (nets - 1) = true)) (fun i => pins.length - (intOf i).toNat)
            case atStart => exact ⟨0, Nat.zero_le _, rfl, Lib.hid (by intro j p h; omega)⟩
            case round =>
              obtain ⟨k, hk, rfl, HI⟩ := hrel
              by_cases hlt : k < pins.length
              · obtain ⟨p, hp, hc⟩ := H4.out k hlt
                have HPP := Lib.hid hp
                have i1 : (0 : Int) ≤ (k : Int) := by omega
                have i2 : (k : Int) < (pins.length : Int) := by omega
                clear hp
                rcases Bool.eq_false_or_eq_true (inB p 0 (nets - 1)) with hin | hin
                · have HIN := Lib.hid hin
                  go_wp2_with (go_at_call 63; refine (l16In_any _ _ _ _).mono ?_; rintro e w' ⟨rfl, rfl⟩)
                  go_round
                  case rel => exact ⟨k + 1, by omega, by go_num, Lib.hid (fun j q hj hq => by
                    by_cases e : j = k
                    · subst e; obtain rfl : q = p := Option.some.inj (hq.symm.trans HPP.out); exact HIN.out
                    · exact HI.out j q (by omega) hq)⟩
                  case measure => simp [intOf]; omega
                · have hr := Lib.hid (HP.out k p HPP.out hin)
                  go_wp2_with (go_at_call 63; refine (l16In_any _ _ _ _).mono ?_; rintro e w' ⟨rfl, rfl⟩)
                  go_ret
                  exact ⟨ret_bool hr.out.symm, blwT⟩
              · obtain rfl : k = pins.length := by omega
                have hall : pins.all (fun p => inB p 0 (nets - 1)) = true := by
                  rw [List.all_eq_true]; intro p hp
                  obtain ⟨j, hj, e⟩ := List.mem_iff_getElem.1 hp
                  exact HI.out j p hj (by rw [List.getElem?_eq_getElem hj, e])
                have hr := HE.out HK1.out HL1.out HW1.out HG1.out hall
                clear hall
                have hr' := Lib.hid hr
                have HGG := Lib.hid (show Int.gcd wd len = Int.gcd wd len from rfl)
                clear hr
                go_wp2_with (go_at_call 105; refine (l26Gcd_as _ _ (wd.gcd len) _ rfl (by omega) (by omega) (by omega) (by omega)).mono ?_; rintro e w' ⟨rfl, nq, rfl⟩)
                go_ret
                exact ⟨ret_bool (by rw [hr'.out, Bool.eq_iff_iff]; simp; try omega), blwT⟩
        · have hr := Lib.hid (HG.out hg)
          obtain ⟨a, c, rfl⟩ := h.len
          rcases (by omega : kind ≠ 2 ∨ kind = 2) with hk2 | hk2
          · have hz : (kind == 2) = false := by simpa using hk2
            have hl3 : ((pins.length : Int) != 3) = false := by simp [hl, pinsOf, hk2]
            clear hl hk2
            go_enter Tryz.func64, Tryz.ntmps64
            go_wp2_with (go_at_call 63; refine (l16In_any _ _ _ _).mono ?_; rintro e w' ⟨rfl, rfl⟩)
            go_ret
            exact ⟨ret_bool hr.out.symm, blwT⟩
          · subst hk2
            have hl3 : ((pins.length : Int) != 2) = false := by simp [hl, pinsOf]
            clear hl
            go_enter Tryz.func64, Tryz.ntmps64
            go_wp2_with (go_at_call 63; refine (l16In_any _ _ _ _).mono ?_; rintro e w' ⟨rfl, rfl⟩)
            go_ret
            exact ⟨ret_bool hr.out.symm, blwT⟩
      · have hr := Lib.hid (HW.out hw)
        obtain ⟨a, c, rfl⟩ := h.len
        rcases (by omega : kind ≠ 2 ∨ kind = 2) with hk2 | hk2
        · have hz : (kind == 2) = false := by simpa using hk2
          have hl3 : ((pins.length : Int) != 3) = false := by simp [hl, pinsOf, hk2]
          clear hl hk2
          go_enter Tryz.func64, Tryz.ntmps64
          go_wp2_with (go_at_call 63; refine (l16In_any _ _ _ _).mono ?_; rintro e w' ⟨rfl, rfl⟩)
          go_ret
          exact ⟨ret_bool hr.out.symm, blwT⟩
        · subst hk2
          have hl3 : ((pins.length : Int) != 2) = false := by simp [hl, pinsOf]
          clear hl
          go_enter Tryz.func64, Tryz.ntmps64
          go_wp2_with (go_at_call 63; refine (l16In_any _ _ _ _).mono ?_; rintro e w' ⟨rfl, rfl⟩)
          go_ret
          exact ⟨ret_bool hr.out.symm, blwT⟩
    · have hr := Lib.hid (HL.out hl)
      obtain ⟨a, c, rfl⟩ := h.len
      rcases (by omega : kind ≠ 2 ∨ kind = 2) with hk2 | hk2
      · have hz : (kind == 2) = false := by simpa using hk2
        have hl3 : ((pins.length : Int) != 3) = true := by simp [pinsOf, hk2] at hl; simp; omega
        clear hl hk2
        go_enter Tryz.func64, Tryz.ntmps64
        go_wp2_with (go_at_call 63; refine (l16In_any _ _ _ _).mono ?_; rintro e w' ⟨rfl, rfl⟩)
        go_ret
        exact ⟨ret_bool hr.out.symm, blwT⟩
      · subst hk2
        have hl3 : ((pins.length : Int) != 2) = true := by simp [pinsOf] at hl; simp; omega
        clear hl
        go_enter Tryz.func64, Tryz.ntmps64
        go_wp2_with (go_at_call 63; refine (l16In_any _ _ _ _).mono ?_; rintro e w' ⟨rfl, rfl⟩)
        go_ret
        exact ⟨ret_bool hr.out.symm, blwT⟩
  · have hr := Lib.hid (HK.out hk)
    have hk2 : kind ≠ 2 := by rintro rfl; simp [inB] at hk
    have hz : (kind == 2) = false := by simpa using hk2
    obtain ⟨a, c, rfl⟩ := h.len
    clear hk2
    go_enter Tryz.func64, Tryz.ntmps64
    go_wp2_with (go_at_call 63; refine (l16In_any _ _ _ _).mono ?_; rintro e w' ⟨rfl, rfl⟩)
    go_ret
    exact ⟨ret_bool hr.out.symm, blwT⟩
/- The program's validity test of a device. -/
set_option maxRecDepth 100000 in
theorem vdClosure_any (p nets : Int) (B : Nat) (W : World) (hc : W.cell? ⟨B, 0, none⟩ = some (.int .i64 nets)) (hn : 0 ≤ nets) (hn' : nets ≤ 24) :
    Calls Tryz.prog 76 #[.int .i64 p, .pointer (some ⟨B, 0, none⟩)] W fun e w' => e = .returned (.bool (!inB p 0 (nets - 1))) ∧ W = w' := by
  go_enter Tryz.func76, Tryz.ntmps76
  go_wp2_with (go_at_call 37; refine (within_any _ _ _ _).mono ?_; rintro e w' ⟨rfl, rfl⟩)
  go_ret
  exact ⟨rfl, rfl⟩
theorem pins_any (nets : Int) (pins : List Int) : (pins.any fun p => !inB p 0 (nets - 1)) = !(pins.all fun p => inB p 0 (nets - 1)) := by
  induction pins with
  | nil => rfl
  | cons x xs ih => simp [ih]
set_option maxRecDepth 100000 in
set_option maxHeartbeats 2000000 in
theorem validDevice_any (x : Dv) (sv : Value) (nets : Int) (w : World) (h : IntSl w sv x.pins) (hn : 0 ≤ nets) (hn' : nets ≤ 24) :
    Calls Tryz.prog 40 #[.agg #[.int .i64 x.kind, sv, .int .i64 x.wd, .int .i64 x.len], .int .i64 nets] w fun e w' => e = .returned (.bool (dvB nets x)) ∧ Below w.heap.size w w' := by
  have HK := Lib.hid (@dvB_kind nets x)
  have HL := Lib.hid (@dvB_len nets x)
  have HW := Lib.hid (@dvB_wd nets x)
  have HG := Lib.hid (@dvB_lg nets x)
  have HPA : (x.pins.all (fun p => inB p 0 (nets - 1))) = false → dvB nets x = false := by intro h; simp [dvB, h]
  replace HPA := Lib.hid HPA
  have HE := Lib.hid (@dvB_end nets x)
  obtain ⟨kind, pins, wd, len⟩ := x
  dsimp only at h HK HL HW HG HPA HE ⊢
  generalize dvB nets ⟨kind, pins, wd, len⟩ = r at *
  have hle := h.le
  have eg : ∀ args w, (callFunc 76 args).run Tryz.prog w = .ok (.enter 76 args) w := enters_of Tryz.func76 (by kernel_rfl) rfl
  have hcl : ∀ (B : Nat) (w0 W : World) (x : Int), w0.cell? ⟨B, 0, none⟩ = some (.int .i64 nets) → Below w0.heap.size w0 W → Calls Tryz.prog 76 (#[.int .i64 x] ++ #[.pointer (some ⟨B, 0, none⟩)]) W fun e w' => e = .returned (.bool (!inB x 0 (nets - 1))) ∧ Below W.heap.size W w' := by
    intro B w0 W x hc hb
    show Calls Tryz.prog 76 #[.int .i64 x, .pointer (some ⟨B, 0, none⟩)] W _
    refine (vdClosure_any x nets B W (cell_by' hb hc) hn hn').mono ?_
    rintro e w' ⟨rfl, rfl⟩
    exact ⟨rfl, Below.refl _ _⟩
  have hw2 := ((Below.refl _ w).alloc (Nat.le_refl _) (.cells #[.int .i64 kind, sv, .int .i64 wd, .int .i64 len] 46)).alloc (by simp) (.cells #[.int .i64 nets] 2)
  have HC := Lib.hid (containsFuncI_any 76 #[.pointer (some ⟨w.heap.size + 1, 0, none⟩)] eg (fun p => !inB p 0 (nets - 1)) sv pins _ (h.by hw2) (fun W x hb _ => hcl (w.heap.size + 1) _ W x (by simp) hb))
  rw [pins_any] at HC
  clear hcl eg hw2
  have HPC := Lib.hid (fun w => pinCount_any kind w)
  have hmf : ∀ (fn : Fn) (first cap : Array Value) (w : World), (Instr.makeFunc fn first cap).run Tryz.prog w = .ok (.func fn first cap) w := fun _ _ _ _ => rfl
  obtain ⟨a, c, rfl⟩ := h.len
  rcases Bool.eq_false_or_eq_true (inB kind 0 2) with hk | hk
  · have hk' := inB_iff.1 hk
    have HK1 := Lib.hid hk
    obtain ⟨q, hq⟩ : ∃ q : Int, pinc kind = q := ⟨_, rfl⟩
    have hq3 : q = 2 ∨ q = 3 := by unfold pinc at hq; repeat' (split at hq); all_goals omega
    have hq0 : (q == 0) = false := by rw [beq_eq_false_iff_ne]; omega
    have hqp : (pinsOf kind : Int) = q := by rw [← hq]; unfold pinc pinsOf; rcases (by omega : kind = 0 ∨ kind = 1 ∨ kind = 2) with rfl | rfl | rfl <;> rfl
    rw [hq] at HPC
    clear hq
    by_cases hl : pins.length = pinsOf kind
    · have HL1 := Lib.hid hl
      have hl' : ((pins.length : Int) != q) = false := by simp [hl, hqp]
      clear hl hqp
      rcases Bool.eq_false_or_eq_true (pins.all (fun p => inB p 0 (nets - 1))) with hp | hp
      · have HP1 := Lib.hid hp
        rw [hp] at HC
        clear hp
        rcases Bool.eq_false_or_eq_true (inB wd 1 1000000) with hw | hw
        · have hw' := inB_iff.1 hw
          have HW1 := Lib.hid hw
          rcases Bool.eq_false_or_eq_true (inB len 1 1000000) with hg | hg
          · have hg' := inB_iff.1 hg
            have HG1 := Lib.hid hg
            have HR := Lib.hid (HE.out HK1.out HL1.out HW1.out HG1.out HP1.out)
            have HVR := Lib.hid (show vrB wd len = decide (Int.gcd wd len = 1) from vrB_of wd (by omega))
            by_cases hk2 : kind = 2
            · subst hk2
              go_enter Tryz.func40, Tryz.ntmps40
              go_wp2_with (first | (go_at_call 59; refine (HPC.out _).mono ?_; rintro e w' ⟨rfl, rfl⟩) | (go_at_call 37; refine (within_any _ _ _ _).mono ?_; rintro e w' ⟨rfl, rfl⟩) | (go_at_call 75; refine HC.out.mono ?_; rintro e w1 ⟨rfl, hb1⟩; have k0 : Blk w1 w.heap.size #[.int .i64 2, .slice a pins.length c, .int .i64 wd, .int .i64 len] 46 := blkT; have c0 := k0.cell) | (go_at_call 48; refine (validRatio_any _ _ _ (by omega) (by omega) (by omega) (by omega)).mono ?_; rintro e w2 ⟨rfl, hb2⟩))
              go_ret
              exact ⟨ret_bool (by rw [HVR.out, HR.out]; simp), blwT⟩
            · have hz' : (kind != 2) = true := by simpa using hk2
              have HK2 := Lib.hid hk2
              clear hk2
              go_enter Tryz.func40, Tryz.ntmps40
              go_wp2_with (first | (go_at_call 59; refine (HPC.out _).mono ?_; rintro e w' ⟨rfl, rfl⟩) | (go_at_call 37; refine (within_any _ _ _ _).mono ?_; rintro e w' ⟨rfl, rfl⟩) | (go_at_call 75; refine HC.out.mono ?_; rintro e w1 ⟨rfl, hb1⟩; have k0 : Blk w1 w.heap.size #[.int .i64 kind, .slice a pins.length c, .int .i64 wd, .int .i64 len] 46 := blkT; have c0 := k0.cell))
              go_ret
              exact ⟨ret_bool (by rw [HR.out]; simp [HK2.out]), blwT⟩
          · have hr := Lib.hid (HG.out hg)
            go_enter Tryz.func40, Tryz.ntmps40
            go_wp2_with (first | (go_at_call 59; refine (HPC.out _).mono ?_; rintro e w' ⟨rfl, rfl⟩) | (go_at_call 37; refine (within_any _ _ _ _).mono ?_; rintro e w' ⟨rfl, rfl⟩) | (go_at_call 75; refine HC.out.mono ?_; rintro e w1 ⟨rfl, hb1⟩; have k0 : Blk w1 w.heap.size #[.int .i64 kind, .slice a pins.length c, .int .i64 wd, .int .i64 len] 46 := blkT; have c0 := k0.cell))
            go_ret
            exact ⟨ret_bool hr.out.symm, blwT⟩
        · have hr := Lib.hid (HW.out hw)
          go_enter Tryz.func40, Tryz.ntmps40
          go_wp2_with (first | (go_at_call 59; refine (HPC.out _).mono ?_; rintro e w' ⟨rfl, rfl⟩) | (go_at_call 37; refine (within_any _ _ _ _).mono ?_; rintro e w' ⟨rfl, rfl⟩) | (go_at_call 75; refine HC.out.mono ?_; rintro e w1 ⟨rfl, hb1⟩; have k0 : Blk w1 w.heap.size #[.int .i64 kind, .slice a pins.length c, .int .i64 wd, .int .i64 len] 46 := blkT; have c0 := k0.cell))
          go_ret
          exact ⟨ret_bool hr.out.symm, blwT⟩
      · have hr := Lib.hid (HPA.out hp)
        rw [hp] at HC
        clear hp
        go_enter Tryz.func40, Tryz.ntmps40
        go_wp2_with (first | (go_at_call 59; refine (HPC.out _).mono ?_; rintro e w' ⟨rfl, rfl⟩) | (go_at_call 75; refine HC.out.mono ?_; rintro e w1 ⟨rfl, hb1⟩))
        go_ret
        exact ⟨ret_bool hr.out.symm, blwT⟩
    · have hr := Lib.hid (HL.out hl)
      have hl' : ((pins.length : Int) != q) = true := by rw [bne_iff_ne]; omega
      clear hl hqp
      go_enter Tryz.func40, Tryz.ntmps40
      go_wp2_with (go_at_call 59; refine (HPC.out _).mono ?_; rintro e w' ⟨rfl, rfl⟩)
      go_ret
      exact ⟨ret_bool hr.out.symm, blwT⟩
  · have hr := Lib.hid (HK.out hk)
    have hq : pinc kind = 0 := by
      have := inB_not.1 hk
      unfold pinc; rw [if_neg (by omega), if_neg (by omega), if_neg (by omega)]
    rw [hq] at HPC
    clear hq
    go_enter Tryz.func40, Tryz.ntmps40
    go_wp2_with (go_at_call 59; refine (HPC.out _).mono ?_; rintro e w' ⟨rfl, rfl⟩)
    go_ret
    exact ⟨ret_bool hr.out.symm, blwT⟩
theorem lt_of_cell {w : World} {p : Addr} {v : Value} (h : w.cell? p = some v) : p.block < w.heap.size := by
  rcases Nat.lt_or_ge p.block w.heap.size with h' | h'
  · exact h'
  · simp [World.cell?, Array.getElem?_eq_none h'] at h
set_option maxRecDepth 100000 in
set_option maxHeartbeats 1000000 in
theorem vnClosure_any (x : Dv) (sv : Value) (nets : Int) (B : Nat) (W : World) (hc : W.cell? ⟨B, 0, none⟩ = some (.int .i64 nets)) (hS : IntSl W sv x.pins) (hn : 0 ≤ nets) (hn' : nets ≤ 24) :
    Calls Tryz.prog 39 #[.agg #[.int .i64 x.kind, sv, .int .i64 x.wd, .int .i64 x.len], .pointer (some ⟨B, 0, none⟩)] W fun e w' => e = .returned (.bool (!dvB nets x)) ∧ Below W.heap.size W w' := by
  have HT := Lib.hid (fun w h => validDevice_any x sv nets w h hn hn')
  have hB := lt_of_cell hc
  dsimp only at hB
  obtain ⟨a, c, rfl⟩ := hS.len
  generalize dvB nets x = r at *
  go_enter Tryz.func39, Tryz.ntmps39
  go_wp2_with fail
  refine (HT.out _ (hS.by blwT)).mono ?_
  rintro e w1 ⟨rfl, hb1⟩
  go_wp2
  go_ret
  exact ⟨rfl, blwT⟩
theorem dvs_any (nets : Int) (ds : List Dv) : (ds.any fun d => !dvB nets d) = !(ds.all (dvB nets)) := by
  induction ds with
  | nil => rfl
  | cons x xs ih => simp [ih]
set_option maxRecDepth 100000 in
set_option maxHeartbeats 4000000 in
theorem implNl_any (x : Nl) (v : Value) (w : World) (h : NlV w v x) (hok : ∀ p ∈ x.ps, p.ok) (hnn : Fits x.nets) :
    Calls Tryz.prog 12 #[v] w fun e w' => e = .returned (.bool (nlB x)) ∧ Below w.heap.size w w' := by
  obtain ⟨s1, s2, rfl, hd, hp⟩ := h
  have HNn := Lib.hid (@nlB_nets x)
  have HND := Lib.hid (@nlB_ds x)
  have HNP := Lib.hid (@nlB_ps x)
  have HPT := Lib.hid (fun i => @nlB_pt i x)
  have HEN := Lib.hid (@nlB_pts x)
  obtain ⟨nets, ds, ps⟩ := x
  dsimp only at hd hp hok hnn HNn HND HNP HPT HEN ⊢
  generalize nlB ⟨nets, ds, ps⟩ = r at *
  have hdl : ds.length ≤ maxLen := by
    rcases hd with ⟨_, _, _, h2⟩ | ⟨b, off, cap, h1, h2, h3, _⟩
    · subst h2; simp
    · exact Nat.le_trans h2 h3
  have hpl : ps.length ≤ maxLen := by
    rcases hp with ⟨_, _, _, h2⟩ | ⟨b, off, cap, h1, h2, h3, _⟩
    · subst h2; simp
    · exact Nat.le_trans h2 h3
  unfold maxLen at hdl hpl
  have HD := Lib.hid hd
  have HP := Lib.hid hp
  have hmf : ∀ (fn : Fn) (first cap : Array Value) (w : World), (Instr.makeFunc fn first cap).run Tryz.prog w = .ok (.func fn first cap) w := fun _ _ _ _ => rfl
  obtain ⟨a1, c1, rfl⟩ := hd.sized
  obtain ⟨a2, c2, rfl⟩ := hp.sized
  clear hd hp
  rcases Bool.eq_false_or_eq_true (inB nets 0 24) with hn | hn
  · have hn' := inB_iff.1 hn
    have HN1 := Lib.hid hn
    by_cases h24 : ds.length ≤ 24
    · by_cases h8 : ps.length ≤ 8
      · have HK := Lib.hid hok
        clear hok
        go_enter Tryz.func12, Tryz.ntmps12
        go_wp2_with (go_at_call 37; refine (within_any _ _ _ _).mono ?_; rintro e w' ⟨rfl, rfl⟩)
        go_loopw [24] (fun i wr => ∃ k : Nat, k ≤ ps.length ∧ i = .int .i64 k ∧ Hid (∀ (j : Nat), j < k → ptOk nets ps j = true) ∧ Blk wr w.heap.size #[.int .i64 nets, .slice a1 ds.length c1, .slice a2 ps.length c2] 27 ∧ Below w.heap.size w wr) (fun i _ => ps.length - (intOf i).toNat)
        case atStart => exact ⟨0, Nat.zero_le _, rfl, Lib.hid (by intro j hj; omega), blkT, blwT⟩
        case round =>
          obtain ⟨k, hk, rfl, HI, kN, hb⟩ := hrel
          have cN := kN.cell
          have lN := kN.lt
          by_cases hlt : k < ps.length
          · obtain ⟨x, hx⟩ : ∃ x, ps[k]? = some x := ⟨ps[k], List.getElem?_eq_getElem hlt⟩
            have HX := Lib.hid hx
            have HPS := HP.out
            rcases HPS with ⟨_, _, _, h2⟩ | ⟨b, off, cap, he, h2, h3, h4⟩
            · rw [h2] at hlt; simp at hlt
            obtain ⟨rfl, rfl⟩ : a2 = some ⟨b, off, none⟩ ∧ c2 = cap := by simpa using he
            obtain ⟨p1, p2⟩ := (h4 k x hx).by hb
            have lP := lt_of_cell p1
            dsimp only at lP
            have hsz : x.name.size ≤ 9223372036854775807 := (HK.out x (List.mem_of_getElem? hx)).1
            have i1 : (0 : Int) ≤ (k : Int) := by omega
            have i2 : (k : Int) < (ps.length : Int) := by omega
            clear hx he
            rcases Bool.eq_false_or_eq_true (nameB x.name) with hnm | hnm
            · rcases Bool.eq_false_or_eq_true (inB x.net 0 (nets - 1)) with hin | hin
              · by_cases hk0 : k = 0
                · have HK0 := Lib.hid hk0
                  have hx0 := HX.out
                  rw [hk0] at hx0
                  have HX0 := Lib.hid hx0
                  have hkz : decide (0 < k) = false := by rw [decide_eq_false_iff_not]; omega
                  clear h4 hk0 hx0
                  have HOK := Lib.hid (HK0.out.symm ▸ ptOk_zero HX0.out hnm hin : ptOk nets ps k = true)
                  go_wp2
                  go_quiet ((first | (go_at_call 38; exact Calls.quiet_of_same ((implIsName_any x.name _ hsz).mono fun _ _ h => ⟨h.1, h.2.symm⟩)) | (go_at_call 37; exact Calls.quiet_of_same ((within_any _ _ _ _).mono fun _ _ h => ⟨h.1, h.2.symm⟩))))
                  go_wp2
                  exact ⟨⟨k + 1, by omega, by go_num, Lib.hid (fun i hj => by
                    by_cases e : i = k
                    · subst e; exact HOK.out
                    · exact HI.out i (by omega)), blkT, blwT⟩, by simp [intOf]; omega⟩
                · obtain ⟨j, rfl⟩ : ∃ j, k = j + 1 := ⟨k - 1, by omega⟩
                  obtain ⟨y, hy⟩ : ∃ y, ps[j]? = some y := ⟨ps[j]'(by omega), List.getElem?_eq_getElem (by omega)⟩
                  have HY := Lib.hid hy
                  obtain ⟨q1, q2⟩ := (h4 j y hy).by hb
                  have j1 : (0 : Int) < (j : Int) + 1 := by omega
                  have j2 : (0 : Int) ≤ (j : Int) := by omega
                  have j3 : (j : Int) < (ps.length : Int) := by omega
                  have j4 : (j : Int) + 1 < (ps.length : Int) := by omega
                  clear hy h4
                  rcases Bool.eq_false_or_eq_true (Op.bytesLess y.name.toList x.name.toList) with hls | hls
                  · have HOK := Lib.hid (ptOk_succ HX.out HY.out hnm hin hls)
                    go_wp2
                    go_quiet ((first | (go_at_call 38; exact Calls.quiet_of_same ((implIsName_any x.name _ hsz).mono fun _ _ h => ⟨h.1, h.2.symm⟩)) | (go_at_call 37; exact Calls.quiet_of_same ((within_any _ _ _ _).mono fun _ _ h => ⟨h.1, h.2.symm⟩))))
                    go_wp2
                    exact ⟨⟨(j + 1) + 1, by omega, by go_num, Lib.hid (fun i hj => by
                      by_cases e : i = (j + 1)
                      · subst e; exact HOK.out
                      · exact HI.out i (by omega)), blkT, blwT⟩, by simp [intOf]; omega⟩
                  · have hr := Lib.hid (HPT.out _ hlt (ptOk_lt HX.out HY.out hls))
                    go_wp2
                    go_quiet ((first | (go_at_call 38; exact Calls.quiet_of_same ((implIsName_any x.name _ hsz).mono fun _ _ h => ⟨h.1, h.2.symm⟩)) | (go_at_call 37; exact Calls.quiet_of_same ((within_any _ _ _ _).mono fun _ _ h => ⟨h.1, h.2.symm⟩))))
                    go_wp2
                    go_ret
                    exact ⟨ret_bool hr.out.symm, blwT⟩
              · have hr := Lib.hid (HPT.out _ hlt (ptOk_net HX.out hin))
                go_wp2
                go_quiet ((first | (go_at_call 38; exact Calls.quiet_of_same ((implIsName_any x.name _ hsz).mono fun _ _ h => ⟨h.1, h.2.symm⟩)) | (go_at_call 37; exact Calls.quiet_of_same ((within_any _ _ _ _).mono fun _ _ h => ⟨h.1, h.2.symm⟩))))
                go_wp2
                go_ret
                exact ⟨ret_bool hr.out.symm, blwT⟩
            · have hr := Lib.hid (HPT.out _ hlt (ptOk_name HX.out hnm))
              go_wp2
              go_quiet ((first | (go_at_call 38; exact Calls.quiet_of_same ((implIsName_any x.name _ hsz).mono fun _ _ h => ⟨h.1, h.2.symm⟩)) | (go_at_call 37; exact Calls.quiet_of_same ((within_any _ _ _ _).mono fun _ _ h => ⟨h.1, h.2.symm⟩))))
              go_wp2
              go_ret
              exact ⟨ret_bool hr.out.symm, blwT⟩
          · obtain rfl : k = ps.length := by omega
            have hr := Lib.hid (HEN.out HN1.out h24 h8 (fun i hi => HI.out i hi))
            have eg : ∀ args w, (callFunc 39 args).run Tryz.prog w = .ok (.enter 39 args) w := enters_of Tryz.func39 (by kernel_rfl) rfl
            have hcl : ∀ (W : World) (x : Dv) (sv : Value), Below wr.heap.size wr W → x ∈ ds → IntSl W sv x.pins → Calls Tryz.prog 39 (#[.agg #[.int .i64 x.kind, sv, .int .i64 x.wd, .int .i64 x.len]] ++ #[.pointer (some ⟨w.heap.size, 0, none⟩)]) W fun e w' => e = .returned (.bool (!dvB nets x)) ∧ Below W.heap.size W w' := by
              intro W x sv hbW _ hS
              show Calls Tryz.prog 39 #[.agg #[.int .i64 x.kind, sv, .int .i64 x.wd, .int .i64 x.len], .pointer (some ⟨w.heap.size, 0, none⟩)] W _
              exact vnClosure_any x sv nets w.heap.size W (cell_by' hbW (by rw [cN]; rfl)) hS (by omega) (by omega)
            have HC := Lib.hid (containsFuncD_any 39 #[.pointer (some ⟨w.heap.size, 0, none⟩)] eg (fun d => !dvB nets d) _ ds wr (HD.out.by hb) hcl)
            rw [dvs_any] at HC
            clear eg hcl HI
            go_wp2_with (go_at_call 14; refine HC.out.mono ?_; rintro e w1 ⟨rfl, hb1⟩)
            go_ret
            exact ⟨ret_bool (by rw [hr.out]), blwT⟩
      · have hr := Lib.hid (HNP.out h8)
        go_enter Tryz.func12, Tryz.ntmps12
        go_wp2_with (go_at_call 37; refine (within_any _ _ _ _).mono ?_; rintro e w' ⟨rfl, rfl⟩)
        go_ret
        exact ⟨ret_bool hr.out.symm, blwT⟩
    · have hr := Lib.hid (HND.out h24)
      go_enter Tryz.func12, Tryz.ntmps12
      go_wp2_with (go_at_call 37; refine (within_any _ _ _ _).mono ?_; rintro e w' ⟨rfl, rfl⟩)
      go_ret
      exact ⟨ret_bool hr.out.symm, blwT⟩
  · have hr := Lib.hid (HNn.out hn)
    go_enter Tryz.func12, Tryz.ntmps12
    go_wp2_with (go_at_call 37; refine (within_any _ _ _ _).mono ?_; rintro e w' ⟨rfl, rfl⟩)
    go_ret
    exact ⟨ret_bool hr.out.symm, blwT⟩
def dcells : List Dv → List Value → List Value
  | d :: ds, p :: ps => .int .i64 d.kind :: p :: .int .i64 d.wd :: .int .i64 d.len :: dcells ds ps
  | _, _ => []
theorem dcells_push (ds : List Dv) (ps : List Value) (d : Dv) (p : Value) (h : ps.length = ds.length) : dcells (ds ++ [d]) (ps ++ [p]) = dcells ds ps ++ [.int .i64 d.kind, p, .int .i64 d.wd, .int .i64 d.len] := by
  induction ds generalizing ps with
  | nil => cases ps with
    | nil => rfl
    | cons => simp at h
  | cons y ys ih => cases ps with
    | nil => simp at h
    | cons q qs => simp at h; simp [dcells, ih qs h]
theorem dcells_get (ds : List Dv) (ps : List Value) (i : Nat) (d : Dv) (p : Value) (h : ds[i]? = some d) (hp : ps[i]? = some p) : (dcells ds ps)[i * 4]? = some (.int .i64 d.kind) ∧ (dcells ds ps)[i * 4 + 1]? = some p ∧ (dcells ds ps)[i * 4 + 2]? = some (.int .i64 d.wd) ∧ (dcells ds ps)[i * 4 + 3]? = some (.int .i64 d.len) := by
  induction ds generalizing ps i with
  | nil => simp at h
  | cons y ys ih => cases ps with
    | nil => simp at hp
    | cons q qs => cases i with
      | zero => simp at h hp; subst h hp; simp [dcells]
      | succ i =>
        simp at h hp
        have e : ∀ r, (dcells (y :: ys) (q :: qs))[(i + 1) * 4 + r]? = (dcells ys qs)[i * 4 + r]? := by
          intro r
          show (Value.int .i64 y.kind :: q :: Value.int .i64 y.wd :: Value.int .i64 y.len :: dcells ys qs)[(i + 1) * 4 + r]? = _
          rw [show (i + 1) * 4 + r = (i * 4 + r) + 1 + 1 + 1 + 1 by omega]
          simp only [List.getElem?_cons_succ]
        have e0 := e 0
        simp only [Nat.add_zero] at e0
        rw [e0, e 1, e 2, e 3]
        exact ih qs i h hp
def Bld (w : World) (lo hi : Nat) (v : Value) (ds : List Dv) : Prop := hi ≤ w.heap.size ∧ ∃ (pvs : List Value) (f : Nat → Nat), w.ownsRow lo 46 4 v ds.length (dcells ds pvs) ∧ pvs.length = ds.length ∧ (∀ g, v.ownBlock = some g → lo ≤ g ∧ g < hi) ∧
  (∀ i x pv, ds[i]? = some x → pvs[i]? = some pv → OwnR w (f i) (f i + 1) pv x.pins ∧ (lo ≤ f i ∧ f i < hi) ∧ v.ownBlock ≠ some (f i)) ∧ (∀ i j, i < ds.length → j < ds.length → i ≠ j → f i ≠ f j)
section
variable {w w' : World} {lo hi : Nat} {v : Value} {ds : List Dv}
theorem grown_within {row : Option Nat} (h : w.grownBy w' row) (hr : ∀ g, row = some g → lo ≤ g ∧ g < hi) : Within lo hi w w' :=
  ⟨h.os, h.tape, h.output, h.size, fun k hk hd => h.block k hk (fun e => by have := hr k e.symm; omega)⟩
theorem row_same {T : TypeId} {k n : Nat} {xs : List Value} (h : w.ownsRow lo T k v n xs) (hb : ∀ g, v.ownBlock = some g → w'.heap[g]? = w.heap[g]?) : w'.ownsRow lo T k v n xs := by
  obtain ⟨h1, h2⟩ := h
  refine ⟨h1, ?_⟩
  rcases h2 with h2 | ⟨g, cap, cur, e1, e2, e3, e4⟩
  · exact .inl h2
  · exact .inr ⟨g, cap, cur, e1, e2, by rw [hb g (by rw [e1]; rfl)]; exact e3, e4⟩
theorem Bld.nil (w : World) (lo : Nat) : Bld w lo w.heap.size (.slice none 0 0) [] :=
  ⟨Nat.le_refl _, [], fun _ => 0, World.ownsRow_nil w lo _ 4, rfl, (by intro g h; cases h), (by intro i x pv h; simp at h), (by intro i j h; simp at h)⟩
theorem Bld.by (hb : Below w.heap.size w w') (h : Bld w lo hi v ds) : Bld w' lo hi v ds := by
  obtain ⟨hs, pvs, f, h1, h2, h3, h4, h5⟩ := h
  refine ⟨Nat.le_trans hs hb.size, pvs, f, row_same h1 (fun g hg => hb.block g (by have := h3 g hg; omega)), h2, h3, fun i x pv hx hp => ?_, h5⟩
  obtain ⟨a, b, c⟩ := h4 i x pv hx hp
  exact ⟨OwnR.by hb a, b, c⟩
theorem Bld.past {lo' hi' : Nat} (hb : Within lo' hi' w w') (h : Bld w lo hi v ds) (hd : hi' ≤ lo ∨ hi ≤ lo') : Bld w' lo hi v ds := by
  obtain ⟨hs, pvs, f, h1, h2, h3, h4, h5⟩ := h
  refine ⟨Nat.le_trans hs hb.size, pvs, f, row_same h1 (fun g hg => hb.block g (by have := h3 g hg; omega) (by have := h3 g hg; omega)), h2, h3, fun i x pv hx hp => ?_, h5⟩
  obtain ⟨a, b, c⟩ := h4 i x pv hx hp
  exact ⟨OwnR.past hb a (by omega), b, c⟩
theorem Bld.sized (h : Bld w lo hi v ds) : ∃ a c, v = .slice a ds.length c := by
  obtain ⟨_, pvs, f, ⟨_, h1⟩, _⟩ := h
  rcases h1 with ⟨h1, h2⟩ | ⟨g, cap, cur, e1, _⟩
  · exact ⟨none, 0, by rw [h1, h2]⟩
  · exact ⟨_, _, e1⟩
theorem Bld.own (h : Bld w lo hi v ds) : OwnDs w lo hi v ds := by
  obtain ⟨hs, pvs, f, ⟨hlen, h1⟩, h2, h3, h4, h5⟩ := h
  rcases h1 with ⟨h1, hn⟩ | ⟨g, cap, cur, e1, e2, e3, e4, e5, e6, e7⟩
  · exact .inl ⟨_, _, h1, List.eq_nil_of_length_eq_zero hn⟩
  · have hcur : ∀ (j : Nat) u, (dcells ds pvs)[j]? = some u → cur[j]? = some u := by
      intro j u hu
      rw [← e7] at hu
      have hj : j < ds.length * 4 := by
        have := (List.getElem?_eq_some_iff.1 hu).1
        rw [List.length_take] at this; omega
      rw [List.getElem?_take_of_lt hj] at hu
      simpa using hu
    refine .inr ⟨g, cap, cur, f, e1, h3 g (by rw [e1]; rfl), e4, e5, e3, fun i x hx => ?_, h5⟩
    have hi : i < ds.length := (List.getElem?_eq_some_iff.1 hx).1
    obtain ⟨pv, hp⟩ : ∃ pv, pvs[i]? = some pv := ⟨pvs[i]'(by omega), List.getElem?_eq_getElem (by omega)⟩
    obtain ⟨a, b, c⟩ := h4 i x pv hx hp
    obtain ⟨q0, q1, q2, q3⟩ := dcells_get ds pvs i x pv hx hp
    refine ⟨⟨pv, ⟨hcur _ _ q0, hcur _ _ q1, hcur _ _ q2, hcur _ _ q3⟩, a⟩, b.1, b.2, fun e => c (by rw [e1, e]; rfl)⟩
end
theorem step_push {ops : Array Oper} {o : Oper} {a : Act} {w : World} {K : Act → World → Prop} {Q : Exit → Act → World → Prop} {E : Prop} (hgd : o.guard = none) (s x : Operand)
    (ho : o.op = .call { callee := .builtin .append, args := #[s, x], argTypes := #[24, 24] })
    (lo hi : Nat) (v : Value) (ds : List Dv) (hs : a.eval s = v) (hB : Bld w lo hi v ds) (nb : Nat) (d : Dv) (pv : Value) (fb : Nat) (hx : a.eval x = .slice (some ⟨nb, 0, none⟩) 1 1)
    (hnb : Blk w nb #[.int .i64 d.kind, pv, .int .i64 d.wd, .int .i64 d.len] 46) (hpv : OwnR w fb (fb + 1) pv d.pins) (hlo : lo ≤ hi) (hhi : hi ≤ fb) (hfb : fb < w.heap.size) (hn : ds.length ≤ 1000)
    (hK : ∀ a' c' w', Bld w' lo w'.heap.size (.slice a' (ds.length + 1) c') (ds ++ [d]) → Within lo hi w w' → K (a.put o.dst (.slice a' (ds.length + 1) c')) w') :
    if Region.wanted o (yielded ops a.tmps) = true then Oper.wp Tryz.prog o a w K Q else E := by
  obtain ⟨i0, hi0, hz0, hz1, hz2⟩ := info_parts infoDev
  obtain ⟨hsz, pvs, f, h1, h2, h3, h4, h5⟩ := hB
  have hone : pv.oneCell' = true := by
    rcases hpv with ⟨_, _, rfl, _⟩ | ⟨_, _, _, rfl, _⟩ <;> rfl
  refine step_append_lies w hgd s x 24 ho lo 46 i0 _ 4 48 Tryz.underlying24 hi0 hz0 hz1 hz2 rfl (by decide) v ds.length _ hs h1 ⟨nb, 0, none⟩ 1 1 [.int .i64 d.kind, pv, .int .i64 d.wd, .int .i64 d.len] hx rfl (World.news_of_block (cs := #[.int .i64 d.kind, pv, .int .i64 d.wd, .int .i64 d.len]) hnb) ?_ (by decide) (by unfold maxLen; omega) (by omega) (by omega) w.heap.size rfl ?_
  · intro u hu
    simp at hu
    rcases hu with rfl | rfl | rfl | rfl
    · rfl
    · exact hone
    · rfl
    · rfl
  · intro g cap w' hrow hgrow hg hgl
    have hW : Within lo hi w w' := grown_within hgrow h3
    refine hK (some ⟨g, 0, none⟩) cap w' ⟨Nat.le_refl _, pvs ++ [pv], fun i => if i = ds.length then fb else f i, ?_, by simp [h2], ?_, ?_, ?_⟩ hW
    · rw [List.length_append, List.length_singleton, dcells_push ds pvs d pv h2]; exact hrow
    · intro g' hg'
      have : g = g' := by injection hg'
      subst this
      rcases hg with h | h
      · have := h3 g h; omega
      · omega
    · intro i y pv' hy hp'
      by_cases hi' : i < ds.length
      · rw [List.getElem?_append_left hi'] at hy
        rw [List.getElem?_append_left (by omega)] at hp'
        obtain ⟨a1, b1, c1⟩ := h4 i y pv' hy hp'
        simp only [if_neg (show i ≠ ds.length by omega)]
        have hsep : ∀ g0, v.ownBlock = some g0 → g0 ≠ f i := fun g0 e1 e2 => c1 (by rw [e1, e2])
        refine ⟨?_, by have := hgrow.size; omega, ?_⟩
        · cases hv : v.ownBlock with
          | none => exact OwnR.by ⟨hgrow.os, hgrow.tape, hgrow.output, hgrow.size, fun k hk => hgrow.block k hk (by rw [hv]; simp)⟩ a1
          | some g0 => exact OwnR.past (grown_within (lo := g0) (hi := g0 + 1) hgrow (fun g1 e => by rw [hv] at e; cases e; omega)) a1 (by have := hsep g0 hv; omega)
        · intro e
          have : g = f i := by injection e
          rcases hg with h | h
          · exact hsep g h this
          · omega
      · have hil : i < (ds ++ [d]).length := (List.getElem?_eq_some_iff.1 hy).1
        simp at hil
        obtain rfl : i = ds.length := by omega
        rw [List.getElem?_append_right (Nat.le_refl _)] at hy
        rw [List.getElem?_append_right (by omega)] at hp'
        simp [h2] at hy hp'
        subst hy hp'
        simp only [if_true]
        refine ⟨OwnR.past hW hpv (by omega), by have := hgrow.size; omega, ?_⟩
        intro e
        have : g = fb := by injection e
        rcases hg with h | h
        · have := h3 g h; omega
        · omega
    · intro i j hi' hj' hij
      simp at hi' hj'
      by_cases e1 : i = ds.length
      · subst e1
        obtain ⟨y, hy⟩ : ∃ y, ds[j]? = some y := ⟨ds[j]'(by omega), List.getElem?_eq_getElem (by omega)⟩
        obtain ⟨p, hp⟩ : ∃ p, pvs[j]? = some p := ⟨pvs[j]'(by omega), List.getElem?_eq_getElem (by omega)⟩
        have := (h4 j y p hy hp).2.1
        simp only [if_true, if_neg (show j ≠ ds.length by omega)]
        omega
      · by_cases e2 : j = ds.length
        · subst e2
          obtain ⟨y, hy⟩ : ∃ y, ds[i]? = some y := ⟨ds[i]'(by omega), List.getElem?_eq_getElem (by omega)⟩
          obtain ⟨p, hp⟩ : ∃ p, pvs[i]? = some p := ⟨pvs[i]'(by omega), List.getElem?_eq_getElem (by omega)⟩
          have := (h4 i y p hy hp).2.1
          simp only [if_true, if_neg e1]
          omega
        · simp only [if_neg e1, if_neg e2]
          exact h5 i j (by omega) (by omega) hij
/- Copies of slices of ports. -/
def pcells : List Pt → List Value
  | p :: ps => .string p.name :: .int .i64 p.net :: pcells ps
  | [] => []
theorem length_pcells (ps : List Pt) : (pcells ps).length = ps.length * 2 := by
  induction ps with
  | nil => rfl
  | cons p ps ih => simp [pcells, ih]; omega
theorem pcells_get (ps : List Pt) (i : Nat) (p : Pt) (h : ps[i]? = some p) : (pcells ps)[i * 2]? = some (.string p.name) ∧ (pcells ps)[i * 2 + 1]? = some (.int .i64 p.net) := by
  induction ps generalizing i with
  | nil => simp at h
  | cons q qs ih => cases i with
    | zero => simp at h; subst h; simp [pcells]
    | succ i =>
      simp at h
      have e : ∀ r, (pcells (q :: qs))[(i + 1) * 2 + r]? = (pcells qs)[i * 2 + r]? := by
        intro r
        show (Value.string q.name :: Value.int .i64 q.net :: pcells qs)[(i + 1) * 2 + r]? = _
        rw [show (i + 1) * 2 + r = (i * 2 + r) + 1 + 1 by omega]
        simp only [List.getElem?_cons_succ]
      have e0 := e 0
      simp only [Nat.add_zero] at e0
      rw [e0, e 1]
      exact ih i h
theorem pcells_at (ps : List Pt) (j : Nat) (u : Value) (h : (pcells ps)[j]? = some u) : ∃ p, ps[j / 2]? = some p ∧ ((j % 2 = 0 ∧ u = .string p.name) ∨ (j % 2 = 1 ∧ u = .int .i64 p.net)) := by
  have hj : j < ps.length * 2 := by have := (List.getElem?_eq_some_iff.1 h).1; rwa [length_pcells] at this
  obtain ⟨p, hp⟩ : ∃ p, ps[j / 2]? = some p := ⟨ps[j / 2]'(by omega), List.getElem?_eq_getElem (by omega)⟩
  obtain ⟨e1, e2⟩ := pcells_get ps (j / 2) p hp
  refine ⟨p, hp, ?_⟩
  rcases Nat.mod_two_eq_zero_or_one j with hm | hm
  · left
    rw [show j / 2 * 2 = j by omega, h] at e1
    exact ⟨hm, Option.some.inj e1⟩
  · right
    rw [show j / 2 * 2 + 1 = j by omega, h] at e2
    exact ⟨hm, Option.some.inj e2⟩
section
variable {w w1 : World} {lo : Nat} {sv : Value} {ps : List Pt}
theorem src_ports (h : PtSl w sv ps) : Src Tryz.prog 2 25 sv ps.length (pcells ps) w := by
  have h1 : ∀ u ∈ pcells ps, u.oneCell' = true := by
    intro u hu
    obtain ⟨j, hj, e⟩ := List.mem_iff_getElem.1 hu
    obtain ⟨p, _, h⟩ := pcells_at ps j u (by rw [List.getElem?_eq_getElem hj, e])
    rcases h with ⟨_, rfl⟩ | ⟨_, rfl⟩ <;> rfl
  rcases h with ⟨a, c, rfl, rfl⟩ | ⟨b, off, cap, rfl, h2, h3, h4⟩
  · cases a with
    | none => exact Src.ofNil w Tryz.underlying25 c
    | some a => exact Src.ofSlice w Tryz.underlying25 a 0 c [] rfl (by simp) (by simp)
  · refine Src.ofSlice w Tryz.underlying25 _ _ _ _ (by rw [length_pcells]) (fun j u hu => ?_) h1
    obtain ⟨p, hp, hc⟩ := pcells_at ps j u hu
    obtain ⟨c1, c2⟩ := h4 _ p hp
    rw [Addr.add_lit]
    rcases hc with ⟨hm, rfl⟩ | ⟨hm, rfl⟩
    · have e : off + j / 2 * 2 = off + j := by omega
      rw [e] at c1; exact c1
    · have e : off + j / 2 * 2 + 1 = off + j := by omega
      rw [e] at c2; exact c2
theorem cloneP_run (h : PtSl w sv ps) (hn : ps.length ≤ 1048576) (b : Nat) (ty : TypeId) (hlo : lo ≤ w.heap.size) :
    ∃ v w', (Builtin.append_ #[25, 25] ty #[.slice (some ⟨b, 0, none⟩) 0 0, sv]).run Tryz.prog w = .ok v w' ∧ OwnPs w' lo w'.heap.size v ps ∧ Below w.heap.size w w' := by
  obtain ⟨i0, hi, hz0, hz1, hz2⟩ := info_parts infoPt
  have hS := src_ports h
  by_cases h0 : ps = []
  · subst h0
    have hr := run_append_room_src (P := Tryz.prog) w 25 25 ty 70 i0 Tryz.underlying25 hi b 0 0 0 sv 0 [] (by rw [hz1]; exact hS) (by omega) (by simp) (by simp)
    refine ⟨_, _, hr, .inl ⟨_, _, rfl, rfl⟩, ?_⟩
    exact Below.refl _ _
  · have hl : 0 < ps.length := List.length_pos_iff.2 h0
    have hr := run_append_grow_src (P := Tryz.prog) w 25 25 ty 70 i0 _ Tryz.underlying25 hi hz0 (some ⟨b, 0, none⟩) 0 0 [] (by rw [hz1]; exact run_firstCells_some w.drew 2 0 _ 0 0 [] rfl (by simp)) sv ps.length (pcells ps) (by rw [hz1]; exact hS) (by omega) (by omega)
      (by rw [hz2]; simp only [Builtin.nextslicecap, Nat.mul_zero, Nat.zero_add]; rw [if_pos (by omega)]; omega)
    refine ⟨_, _, hr, .inr ⟨w.heap.size, grownCap w (0 + ps.length) 0 70, _, by rw [Nat.zero_add], ⟨hlo, by simp⟩, by have := grownCap_ge w (0 + ps.length) 0 70; omega, grownCap_le_maxLen _ _ _ _ (by unfold maxLen; omega), Blk.new _ rfl, ?_⟩, ((Below.refl _ _).drew).alloc (Nat.le_refl _) _⟩
    intro i x hx
    have hi := (List.getElem?_eq_some_iff.1 hx).1
    obtain ⟨e1, e2⟩ := pcells_get ps i x hx
    have hl2 := length_pcells ps
    refine ⟨?_, ?_⟩
    · rw [Array.getElem?_append_left (by simp [hl2]; omega)]; simpa using e1
    · rw [Array.getElem?_append_left (by simp [hl2]; omega)]; simpa using e2
end
theorem step_cloneP {ops : Array Oper} {o : Oper} {a : Act} {w : World} {K : Act → World → Prop} {Q : Exit → Act → World → Prop} {E : Prop} (hgd : o.guard = none) (s x : Operand)
    (ho : o.op = .call { callee := .builtin .append, args := #[s, x], argTypes := #[25, 25] })
    (b : Nat) (hs : a.eval s = .slice (some ⟨b, 0, none⟩) 0 0) (sv : Value) (ps : List Pt) (hx : a.eval x = sv) (h : PtSl w sv ps) (hn : ps.length ≤ 1048576) (lo : Nat) (hlo : lo ≤ w.heap.size)
    (hK : ∀ v w', OwnPs w' lo w'.heap.size v ps → Below w.heap.size w w' → K (a.put o.dst v) w') :
    if Region.wanted o (yielded ops a.tmps) = true then Oper.wp Tryz.prog o a w K Q else E := by
  have hw : Region.wanted o (yielded ops a.tmps) = true := by simp [Region.wanted, hgd]
  rw [if_pos hw]
  obtain ⟨v, w', hr, h2, h3⟩ := cloneP_run h hn b o.type hlo
  unfold Oper.wp execOp
  simp only [ho, resolve, invoke, builtin, Sem.run_bind, Sem.run_pure, Result.andThen_ok, List.map_toArray, List.map_cons, List.map_nil, hs, hx, hr]
  exact hK v w' h2 h3
theorem list_cloneP {ops : Array Oper} {rest : List Oper} {o : Oper} {a : Act} {w : World} {Q : Exit → Act → World → Prop} (hgd : o.guard = none) (s x : Operand)
    (ho : o.op = .call { callee := .builtin .append, args := #[s, x], argTypes := #[25, 25] })
    (b : Nat) (hs : a.eval s = .slice (some ⟨b, 0, none⟩) 0 0) (sv : Value) (ps : List Pt) (hx : a.eval x = sv) (h : PtSl w sv ps) (hn : ps.length ≤ 1048576) (lo : Nat) (hlo : lo ≤ w.heap.size)
    (hK : ∀ v w', OwnPs w' lo w'.heap.size v ps → Below w.heap.size w w' → wpList Tryz.prog ops Q rest (a.put o.dst v) w') : wpList Tryz.prog ops Q (o :: rest) a w :=
  wpList_plain hgd fun _ hK' => by
    obtain ⟨v, w', hr, h2, h3⟩ := cloneP_run h hn b o.type hlo
    unfold Oper.wp execOp
    simp only [ho, resolve, invoke, builtin, Sem.run_bind, Sem.run_pure, Result.andThen_ok, List.map_toArray, List.map_cons, List.map_nil, hs, hx, hr]
    exact hK' _ _ (hK v w' h2 h3)
set_option maxRecDepth 100000 in
set_option maxHeartbeats 1000000 in
theorem cloneP_any (sv : Value) (ps : List Pt) (w : World) (h : PtSl w sv ps) (hn : ps.length ≤ 1048576) :
    Calls Tryz.prog 50 #[sv] w fun e w' => ∃ v, e = .returned v ∧ OwnPs w' w.heap.size w'.heap.size v ps ∧ Below w.heap.size w w' := by
  obtain ⟨a, c, rfl⟩ := h.sized
  have q22 : ∀ (w : World) (a : Option Addr) (n c n' c' : Nat), (binOp .eql 25 (.slice a n c) (.slice none n' c')).run Tryz.prog w = .ok (.bool a.isNone) w := fun w a n c n' c' => Lib.run_eql_slice_nil w _ _ a n c n' c' Tryz.underlying25
  cases a with
  | none =>
    have hz : ps = [] := by
      rcases h with ⟨_, _, _, h2⟩ | ⟨b, off, cap, h1, _⟩
      · exact h2
      · simp at h1
    subst hz
    go_enter Tryz.func50, Tryz.ntmps50
    go_wp2
    refine bodyPost_ret (v := .slice none 0 0) (by simp [results, Tryz.results50, go_sem, *]) rfl ⟨_, rfl, .inl ⟨_, _, rfl, rfl⟩, blwT⟩
  | some ad =>
    go_enter Tryz.func50, Tryz.ntmps50
    go_wp2_with ((refine list_cloneP (by rfl) _ _ (by rfl) _ (by rfl) _ ps (by rfl) (h.by blwT) hn w.heap.size (by simp; try omega) ?_; intro v w3 hO hb3; have HO := Lib.hid hO; obtain ⟨a1, c1, rfl⟩ := hO.sl.sized; clear hO))
    refine bodyPost_ret (v := .slice a1 ps.length c1) (by simp [results, Tryz.results50, go_sem, *]) rfl ⟨_, rfl, HO.out, blwT⟩
/- copyNetlist. -/
theorem OwnI.pin {w : World} {lo : Nat} {sv : Value} {zs : List Int} (h : OwnI w lo sv zs) (hne : zs ≠ []) : ∃ g, lo ≤ g ∧ g < w.heap.size ∧ OwnR w g (g + 1) sv zs := by
  rcases h with ⟨_, _, _, h⟩ | ⟨g, cap, cs, h1, h2, h3, h4, h5, h6⟩
  · exact absurd h hne
  · exact ⟨g, h2, h5.lt, .inr ⟨g, cap, cs, h1, Nat.le_refl _, Nat.lt_succ_self _, h3, h4, h5, h6⟩⟩
set_option maxRecDepth 100000 in
set_option maxHeartbeats 4000000 in
theorem copyNetlist_any (x : Nl) (v : Value) (w : World) (h : NlV w v x) (hl : x.ds.length ≤ 1000) (hpl : x.ps.length ≤ 1048576) (hpn : ∀ d ∈ x.ds, d.pins.length ≤ 1048576 ∧ d.pins ≠ []) :
    Calls Tryz.prog 23 #[v] w fun e w' => ∃ v', e = .returned v' ∧ OwnNl w' w.heap.size w'.heap.size v' x ∧ Below w.heap.size w w' := by
  obtain ⟨s1, s2, rfl, hd, hp⟩ := h
  obtain ⟨nets, ds, ps⟩ := x
  dsimp only at hd hp hl hpl hpn ⊢
  have HD := Lib.hid hd
  have HP := Lib.hid hp
  have HPN := Lib.hid hpn
  have HCL := Lib.hid (fun w h => cloneP_any s2 ps w h hpl)
  obtain ⟨a1, c1, rfl⟩ := hd.sized
  obtain ⟨a2, c2, rfl⟩ := hp.sized
  clear hd hp hpn
  go_enter Tryz.func23, Tryz.ntmps23
  go_upto_region 1 with fail
  go_cut [3] (fun s3 wx => ∃ (p : Nat) (a3 : Option Addr) (c3 lo2 hi2 : Nat), s3 = .pointer (some ⟨p, 0, none⟩) ∧ Blk wx p #[.int .i64 nets, .slice none 0 0, .slice a3 ps.length c3] 27 ∧ Blk wx w.heap.size #[.int .i64 nets, .slice a1 ds.length c1, .slice a2 ps.length c2] 27 ∧ Blk wx (w.heap.size + 1) #[.int .i64 0, .slice none 0 0, .slice none 0 0] 27 ∧ OwnPs wx lo2 hi2 (.slice a3 ps.length c3) ps ∧ (w.heap.size + 1 < p ∧ w.heap.size + 1 < lo2 ∧ hi2 ≤ wx.heap.size ∧ (p < lo2 ∨ hi2 ≤ p)) ∧ Below w.heap.size w wx)
  case first =>
    go_region_held3 ((fun w' => (Blk w' (w.heap.size) #[.int .i64 nets, .slice a1 ds.length c1, .slice a2 ps.length c2] 27 ∧ ∀ o, w'.cell? ⟨w.heap.size, o, none⟩ = (#[.int .i64 nets, .slice a1 ds.length c1, .slice a2 ps.length c2] : Array Value)[o]?) ∧ Below w.heap.size w w')) (((try (obtain ⟨⟨hS0, _⟩, hSB⟩ := hHeld)); refine ⟨Blk.both ?_, ?_⟩ <;> first | ((repeat (first | (with_reducible assumption) | (with_reducible refine Blk.drewN ?_ _) | (with_reducible refine Blk.drew ?_) | ((with_reducible refine Blk.new _ ?_); focus (first | omega | (simp; done) | (simp; omega))) | (with_reducible refine Blk.past ?_ _) | ((with_reducible refine Blk.apart ?_ _ _ _ ?_); rotate_left; focus (first | omega | (simp; done) | (simp; omega))) | (with_reducible refine Blk.by (by assumption) ?_))); done) | ((repeat (first | (with_reducible exact Below.refl _ _) | (with_reducible refine below_drewN ?_ _) | (with_reducible refine Below.drew ?_) | (with_reducible refine below_al ?_ _) | (with_reducible refine below_on (by assumption) ?_) | ((with_reducible refine Below.setCell ?_ ?_ _); rotate_left; focus (first | omega | (simp; done) | (simp; omega))) | (with_reducible assumption))); done)))
      (first | (go_at_call 50; refine (HCL.out _ (HP.out.by blwT)).mono ?_; rintro e w1 ⟨v1, rfl, hO, hb1⟩; have HO := Lib.hid hO; obtain ⟨a3, c3, rfl⟩ := hO.sl.sized; clear hO; (try (refine with_fact (p := Blk w1 (w.heap.size + 1 + 1) #[.int .i64 0, .slice none 0 0, .slice none 0 0] 27) (Blk.by hb1 ?_) ?_; (focus ((repeat (first | (with_reducible assumption) | (with_reducible refine Blk.drewN ?_ _) | (with_reducible refine Blk.drew ?_) | ((with_reducible refine Blk.new _ ?_); focus (first | omega | (simp; done) | (simp; omega))) | (with_reducible refine Blk.past ?_ _) | ((with_reducible refine Blk.apart ?_ _ _ _ ?_); rotate_left; focus (first | omega | (simp; done) | (simp; omega))) | (with_reducible refine Blk.by (by assumption) ?_))); done)); intro k3; have c3' := k3.cell; have f3' := k3.free))))
    all_goals (go_wp2_with fail; go_meet)
    all_goals have hlw := hb1.size
    all_goals simp only [World.size_alloc, World.size_drew] at hlw
    · refine ⟨_, a3, c3, w.heap.size + 1 + 1, w1.heap.size, rfl, Blk.new _ rfl, blkT, blkT, ?_, ⟨by omega, by omega, by simp, by omega⟩, blwT⟩
      exact (HO.out.by ((Below.refl _ w1).alloc (Nat.le_refl _) _)).wide (by simp) (by simp)
    · refine ⟨_, a3, c3, w.heap.size + 1 + 1 + 1, w1.heap.size, rfl, (((k3.set 0 _).set 1 _).set 2 _), blkT, blkT, ?_, ⟨by omega, by omega, by simp, by omega⟩, blwT⟩
      exact (((HO.out.past (Within.off _) (by simp)).past (Within.off _) (by simp)).past (Within.off _) (by simp)).wide (by simp) (by simp)
  case rest =>
    obtain ⟨p, a3, c3, lo2, hi2, rfl, kP, kN, kZ, hO, ⟨hp1, hp2, hp3, hp4⟩, hb⟩ := hcut
    have HO := Lib.hid hO
    have lP := kP.lt
    have hbl := hb.size
    have cN := kN.cell
    obtain ⟨B, hB⟩ : ∃ B, wc.heap.size = B := ⟨_, rfl⟩
    rw [hB] at lP hbl
    have hBl := Bld.nil wc wc.heap.size
    rw [hB] at hBl hp3
    have HO1 := Lib.hid hO
    have lPB : p < B := lP
    clear hO HO
    have HB := Lib.hid hB
    clear hB
    go_wp2
    go_loopw [15] (fun i wr => ∃ (k : Nat) (v : Value) (hi : Nat), k ≤ ds.length ∧ B ≤ hi ∧ i = .int .i64 k ∧ Bld wr B hi v (ds.take k) ∧ Blk wr p #[.int .i64 nets, v, .slice a3 ps.length c3] 27 ∧ Blk wr (w.heap.size + 1) #[.int .i64 0, .slice none 0 0, .slice none 0 0] 27 ∧ OwnPs wr lo2 hi2 (.slice a3 ps.length c3) ps ∧ Below w.heap.size w wr) (fun i _ => ds.length - (intOf i).toNat)
    case atStart => exact ⟨0, .slice none 0 0, B, Nat.zero_le _, Nat.le_refl _, rfl, hBl, kP, kZ, HO1.out, hb⟩
    case round =>
      clear kP kZ kN cN hb hBl
      obtain ⟨k, v, hi, hk, hBhi, rfl, hBl, kP, kZ, hO, hb⟩ := hrel
      have HO := Lib.hid hO
      have HBL := Lib.hid hBl
      have lP := kP.lt
      obtain ⟨av, cv, rfl⟩ := hBl.sized
      have hhi := hBl.1
      clear hO hBl
      by_cases hlt : k < ds.length
      · obtain ⟨x, hx⟩ : ∃ x, ds[k]? = some x := ⟨ds[k], List.getElem?_eq_getElem hlt⟩
        have HDS := HD.out
        rcases HDS with ⟨_, _, _, h2⟩ | ⟨b, off, cap, he, h2, h3, h4⟩
        · rw [h2] at hlt; simp at hlt
        obtain ⟨rfl, rfl⟩ : a1 = some ⟨b, off, none⟩ ∧ c1 = cap := by simpa using he
        obtain ⟨hxl, hxn⟩ := HPN.out x (List.mem_of_getElem? hx)
        obtain ⟨sx, d1, d2, d3, d4, hSx⟩ := (h4 k x hx).by hb
        have lX := lt_of_cell d1
        dsimp only at lX
        have HCD := Lib.hid (fun w h => copyDevice_any x.kind x.wd x.len sx x.pins w h hxl)
        have HSX := Lib.hid hSx
        have HX := Lib.hid hx
        have HXN := Lib.hid hxn
        have htk := List.length_take (i := k) (l := ds)
        obtain ⟨ax, cx, rfl⟩ := hSx.len
        have i1 : (0 : Int) ≤ (k : Int) := by omega
        have i2 : (k : Int) < (ds.length : Int) := by omega
        obtain ⟨wo, rfl⟩ : ∃ wo : World, wo = wr := ⟨_, rfl⟩
        have htl : (ds.take k).length = k := by rw [List.length_take]; omega
        have HTL := Lib.hid htl
        have kA : Blk (wo.alloc (.cells #[.int .i64 x.kind, .slice ax x.pins.length cx, .int .i64 x.wd, .int .i64 x.len] 46)) wo.heap.size #[.int .i64 x.kind, .slice ax x.pins.length cx, .int .i64 x.wd, .int .i64 x.len] 46 := Blk.new _ rfl
        have kP' := kP.past (.cells #[.int .i64 x.kind, .slice ax x.pins.length cx, .int .i64 x.wd, .int .i64 x.len] 46)
        have hb' := below_al hb (.cells #[.int .i64 x.kind, .slice ax x.pins.length cx, .int .i64 x.wd, .int .i64 x.len] 46)
        rw [htl] at kP' kP
        clear h4 hx hxn he hSx htk htl
        have hBL2 := HBL.out
        rw [HTL.out] at hBL2
        have HBL2 := Lib.hid hBL2
        clear hBL2
        clear HBL
        have cP : wo.cell? ⟨p, 1, none⟩ = some (.slice av k cv) := kP.cell 1
        have kP1' := kP'.drew
        go_wp2
        go_region_law
          (first | (go_simp; go_at_call 51; refine (HCD.out _ (HSX.out.by blwT)).mono ?_; rintro e w1 ⟨v1, rfl, hOI, hb1⟩; obtain ⟨fb, hf1, hf2, hOR⟩ := hOI.pin HXN.out; have HOR := Lib.hid hOR; obtain ⟨a1', c1', rfl⟩ := hOR.sl.len; clear hOR hOI; (try simp at hf1); have kP1 := Blk.by hb1 kP1'; have cP1 : w1.cell? ⟨p, 1, none⟩ = some (.slice av k cv) := kP1.cell 1; have lP1 := kP1.lt; dsimp only) | (refine step_push (by rfl) _ _ (by rfl) B hi _ (ds.take k) (by rfl) (HBL2.out.by blwT) w1.heap.size x _ fb (by rfl) (Blk.new _ rfl) (HOR.out.by ((Below.refl _ w1).alloc (Nat.le_refl _) _)) (by omega) (by omega) (by simp; omega) (by rw [HTL.out]; omega) ?_; intro a' c' w3 hBl3 hw3; have HBL3 := Lib.hid hBl3; have kP3 := hw3.blk ((Blk.by hb1 kP'.drew).past (.cells #[.int .i64 x.kind, .slice a1' x.pins.length c1', .int .i64 x.wd, .int .i64 x.len] 46)) (by omega); have cP3 : w3.cell? ⟨p, 1, none⟩ = some (.slice av k cv) := kP3.cell 1; have fP3 : w3.frozen? ⟨p, 1, none⟩ = false := kP3.free 1; have lP3 := kP3.lt; clear hBl3))
        all_goals
          have hsz3 := hw3.size
          simp only [World.size_alloc] at hsz3
          have hb3 := hw3.below (below_al (below_on hb1 hb'.drew) (.cells #[.int .i64 x.kind, .slice a1' x.pins.length c1', .int .i64 x.wd, .int .i64 x.len] 46)) (by omega)
          have kZ3 := hw3.blk ((Blk.by hb1 ((kZ.past (.cells #[.int .i64 x.kind, .slice ax x.pins.length cx, .int .i64 x.wd, .int .i64 x.len] 46)).drew)).past (.cells #[.int .i64 x.kind, .slice a1' x.pins.length c1', .int .i64 x.wd, .int .i64 x.len] 46)) (by omega)
          have hO3 := ((((HO.out.by ((Below.refl _ wo).alloc (Nat.le_refl _) (.cells #[.int .i64 x.kind, .slice ax x.pins.length cx, .int .i64 x.wd, .int .i64 x.len] 46))).by (below_of_drewN _ 1)).by hb1).by ((Below.refl _ w1).alloc (Nat.le_refl _) (.cells #[.int .i64 x.kind, .slice a1' x.pins.length c1', .int .i64 x.wd, .int .i64 x.len] 46))).past hw3 (by omega)
          have hl1 := hb1.size
          simp only [World.size_alloc, World.size_drew] at hl1
          go_wp2
          have hB4 := HBL3.out
          rw [HTL.out] at hB4
          have hW4 : Within p (p + 1) w3 (w3.setCell ⟨p, 1, none⟩ (.slice a' (k + 1) c')) := Within.off _
          have hO4 := OwnPs.past (lo := lo2) (hi := hi2) hW4 hO3 (by omega)
          refine ⟨⟨k + 1, .slice a' (k + 1) c', w3.heap.size, by omega, by omega, by go_num, ?_, kP3.set 1 _, kZ3.apart p 1 _ (by omega), hO4, hb3.setCell (by simp; omega) _⟩, by simp [intOf]; omega⟩
          rw [take_snoc_of ds k x HX.out]
          exact hB4.past hW4 (by omega)
      · obtain rfl : k = ds.length := by omega
        have hBL2 := HBL.out
        rw [List.take_length] at hBL2 kP
        have HOD := Lib.hid hBL2.own
        have c1' := kP.cell
        have c2' := kZ.cell
        have f2' := kZ.free
        have l2' := kZ.lt
        clear HBL hBL2
        go_wp2
        refine bodyPost_ret (v := .agg #[.int .i64 nets, .slice av ds.length cv, .slice a3 ps.length c3]) (by simp [results, Tryz.results23, go_sem, *]) rfl ⟨_, rfl, ⟨_, _, B, hi, lo2, hi2, rfl, ?_, ?_, ⟨hbl, by simp; omega⟩, ⟨by omega, by simp; omega⟩, .inr hp3⟩, ?_⟩
        · exact (((HOD.out.past (Within.off _) (by omega)).past (Within.off _) (by omega)).past (Within.off _) (by omega))
        · exact (((HO.out.past (Within.off _) (by omega)).past (Within.off _) (by omega)).past (Within.off _) (by omega))
        · repeat (first | (with_reducible exact hb) | ((with_reducible refine Below.setCell ?_ ?_ _); rotate_left; focus (simp; try omega)))
theorem pcells_push (ps : List Pt) (p : Pt) : pcells (ps ++ [p]) = pcells ps ++ [.string p.name, .int .i64 p.net] := by
  induction ps with
  | nil => rfl
  | cons q qs ih => simp [pcells, ih]
def BldP (w : World) (lo hi : Nat) (v : Value) (ps : List Pt) : Prop := hi ≤ w.heap.size ∧ w.ownsRow lo 70 2 v ps.length (pcells ps) ∧ (∀ g, v.ownBlock = some g → lo ≤ g ∧ g < hi)
section
variable {w w' : World} {lo hi : Nat} {v : Value} {ps : List Pt}
theorem BldP.nil (w : World) (lo : Nat) : BldP w lo w.heap.size (.slice none 0 0) [] :=
  ⟨Nat.le_refl _, World.ownsRow_nil w lo _ 2, by intro g h; cases h⟩
theorem BldP.by (hb : Below w.heap.size w w') (h : BldP w lo hi v ps) : BldP w' lo hi v ps := by
  obtain ⟨hs, h1, h3⟩ := h
  exact ⟨Nat.le_trans hs hb.size, row_same h1 (fun g hg => hb.block g (by have := h3 g hg; omega)), h3⟩
theorem BldP.past {lo' hi' : Nat} (hb : Within lo' hi' w w') (h : BldP w lo hi v ps) (hd : hi' ≤ lo ∨ hi ≤ lo') : BldP w' lo hi v ps := by
  obtain ⟨hs, h1, h3⟩ := h
  exact ⟨Nat.le_trans hs hb.size, row_same h1 (fun g hg => hb.block g (by have := h3 g hg; omega) (by have := h3 g hg; omega)), h3⟩
theorem BldP.sized (h : BldP w lo hi v ps) : ∃ a c, v = .slice a ps.length c := by
  obtain ⟨_, ⟨_, h1⟩, _⟩ := h
  rcases h1 with ⟨h1, h2⟩ | ⟨g, cap, cur, e1, _⟩
  · exact ⟨none, 0, by rw [h1, h2]⟩
  · exact ⟨_, _, e1⟩
theorem BldP.own (h : BldP w lo hi v ps) : OwnPs w lo hi v ps := by
  obtain ⟨hs, ⟨hlen, h1⟩, h3⟩ := h
  rcases h1 with ⟨h1, hn⟩ | ⟨g, cap, cur, e1, e2, e3, e4, e5, e6, e7⟩
  · exact .inl ⟨_, _, h1, List.eq_nil_of_length_eq_zero hn⟩
  · have hcur : ∀ (j : Nat) u, (pcells ps)[j]? = some u → cur[j]? = some u := by
      intro j u hu
      rw [← e7] at hu
      have hj : j < ps.length * 2 := by
        have := (List.getElem?_eq_some_iff.1 hu).1
        rw [List.length_take] at this; omega
      rw [List.getElem?_take_of_lt hj] at hu
      simpa using hu
    refine .inr ⟨g, cap, cur, e1, h3 g (by rw [e1]; rfl), e4, e5, e3, fun i x hx => ?_⟩
    obtain ⟨q0, q1⟩ := pcells_get ps i x hx
    exact ⟨hcur _ _ q0, hcur _ _ q1⟩
end
theorem step_pushP {ops : Array Oper} {o : Oper} {a : Act} {w : World} {K : Act → World → Prop} {Q : Exit → Act → World → Prop} {E : Prop} (hgd : o.guard = none) (s x : Operand)
    (ho : o.op = .call { callee := .builtin .append, args := #[s, x], argTypes := #[25, 25] })
    (lo hi : Nat) (v : Value) (ps : List Pt) (hs : a.eval s = v) (hB : BldP w lo hi v ps) (nb : Nat) (p : Pt) (hx : a.eval x = .slice (some ⟨nb, 0, none⟩) 1 1)
    (hnb : Blk w nb #[.string p.name, .int .i64 p.net] 70) (hlo : lo ≤ hi) (hn : ps.length ≤ 1000)
    (hK : ∀ a' c' w', BldP w' lo w'.heap.size (.slice a' (ps.length + 1) c') (ps ++ [p]) → Within lo hi w w' → K (a.put o.dst (.slice a' (ps.length + 1) c')) w') :
    if Region.wanted o (yielded ops a.tmps) = true then Oper.wp Tryz.prog o a w K Q else E := by
  obtain ⟨i0, hi0, hz0, hz1, hz2⟩ := info_parts infoPt
  obtain ⟨hsz, h1, h3⟩ := hB
  refine step_append_lies w hgd s x 25 ho lo 70 i0 _ 2 24 Tryz.underlying25 hi0 hz0 hz1 hz2 rfl (by decide) v ps.length _ hs h1 ⟨nb, 0, none⟩ 1 1 [.string p.name, .int .i64 p.net] hx rfl (World.news_of_block (cs := #[.string p.name, .int .i64 p.net]) hnb) ?_ (by decide) (by unfold maxLen; omega) (by omega) (by omega) w.heap.size rfl ?_
  · intro u hu
    simp at hu
    rcases hu with rfl | rfl
    · rfl
    · rfl
  · intro g cap w' hrow hgrow hg hgl
    have hW : Within lo hi w w' := grown_within hgrow h3
    refine hK (some ⟨g, 0, none⟩) cap w' ⟨Nat.le_refl _, ?_, ?_⟩ hW
    · rw [List.length_append, List.length_singleton, pcells_push]; exact hrow
    · intro g' hg'
      have : g = g' := by injection hg'
      subst this
      rcases hg with h | h
      · have := h3 g h; omega
      · omega
/- Netlists with other numbers of nets: the plain part. -/
def nmOf (names : List Int) (p : Int) : Int := names.getD p.toNat 0
def renD (names : List Int) (d : Dv) : Dv := ⟨d.kind, d.pins.map (nmOf names), d.wd, d.len⟩
def renP (names : List Int) (p : Pt) : Pt := ⟨p.name, nmOf names p.net⟩
def renS (x : Nl) (names : List Int) (nets : Int) : Nl := ⟨nets, x.ds.map (renD names), x.ps.map (renP names)⟩
def renTo (names : List Int) (zs : List Int) (k : Nat) : List Int := (zs.take k).map (nmOf names) ++ zs.drop k
theorem renTo_zero (names zs : List Int) : renTo names zs 0 = zs := by simp [renTo]
theorem renTo_all (names zs : List Int) : renTo names zs zs.length = zs.map (nmOf names) := by simp [renTo]
theorem renTo_get (names zs : List Int) (k : Nat) (z : Int) (h : zs[k]? = some z) : (renTo names zs k)[k]? = some z := by
  have hk := (List.getElem?_eq_some_iff.1 h).1
  rw [renTo, List.getElem?_append_right (by simp; omega)]
  simp
  rw [show k - min k zs.length = 0 by omega]
  simpa using h
theorem renTo_step (names zs : List Int) (k : Nat) (z : Int) (h : zs[k]? = some z) : (renTo names zs k).set k (nmOf names z) = renTo names zs (k + 1) := by
  have hk := (List.getElem?_eq_some_iff.1 h).1
  apply List.ext_getElem?
  intro i
  have e : zs[k] = z := by rw [List.getElem?_eq_getElem hk] at h; exact Option.some.inj h
  unfold renTo
  rw [take_snoc_of zs k z h]
  by_cases hi : i = k
  · subst hi
    rw [List.getElem?_set_self (by simp; omega)]
    rw [List.getElem?_append_left (by simp; omega), List.map_append, List.getElem?_append_right (by simp; omega)]
    simp
    rw [show i - min i zs.length = 0 by omega]
    rfl
  · rw [List.getElem?_set_ne (by omega)]
    by_cases hlt : i < k
    · rw [List.getElem?_append_left (by simp; omega), List.getElem?_append_left (by simp; omega), List.map_append, List.getElem?_append_left (by simp; omega)]
    · rw [List.getElem?_append_right (by simp; omega), List.getElem?_append_right (by simp; omega)]
      simp
      congr 1
      omega
def ICs (cs : Array Value) (zs : List Int) : Prop := ∀ (i : Nat) (z : Int), zs[i]? = some z → cs[i]? = some (Value.int .i64 z)
theorem ICs.set {cs : Array Value} {zs : List Int} (h : ICs cs zs) (k : Nat) (v : Int) : ICs (cs.setIfInBounds k (.int .i64 v)) (zs.set k v) := by
  intro i z hz
  have hi : i < zs.length := by have := (List.getElem?_eq_some_iff.1 hz).1; simpa using this
  have hc := h i zs[i] (List.getElem?_eq_getElem hi)
  have hs := (Array.getElem?_eq_some_iff.1 hc).1
  by_cases e : k = i
  · subst e
    rw [List.getElem?_set_self hi] at hz
    cases hz
    simp [Array.getElem?_setIfInBounds, hs]
  · rw [List.getElem?_set_ne e] at hz
    rw [Array.getElem?_setIfInBounds, if_neg e]
    exact h i z hz
theorem ICs.own {w : World} {g cap : Nat} {cs : Array Value} {zs : List Int} (h : ICs cs zs) (hB : Blk w g cs 2) (h1 : zs.length ≤ cap) (h2 : cap ≤ maxLen) : OwnR w g (g + 1) (.slice (some ⟨g, 0, none⟩) zs.length cap) zs :=
  .inr ⟨g, cap, cs, rfl, Nat.le_refl _, Nat.lt_succ_self _, h1, h2, hB, h⟩
theorem OwnR.cells {w : World} {lo hi : Nat} {sv : Value} {zs : List Int} (h : OwnR w lo hi sv zs) (hz : zs ≠ []) : ∃ g cap cs, sv = .slice (some ⟨g, 0, none⟩) zs.length cap ∧ (lo ≤ g ∧ g < hi) ∧ zs.length ≤ cap ∧ cap ≤ maxLen ∧ Blk w g cs 2 ∧ ICs cs zs := by
  rcases h with ⟨_, _, _, h⟩ | ⟨g, cap, cs, h1, h2, h2', h3, h4, h5, h6⟩
  · exact absurd h hz
  · exact ⟨g, cap, cs, h1, ⟨h2, h2'⟩, h3, h4, h5, h6⟩
/- The two pushes at a plain list of operations. -/
/- One device's pins, one port's net, turned in place. -/
theorem OwnDs.setPins {w : World} {lo hi : Nat} {sv : Value} {ds : List Dv} {k : Nat} {x : Dv} (h : OwnDs w lo hi sv ds) (hx : ds[k]? = some x) :
    ∃ (g cap : Nat) (cs : Array Value) (fb : Nat) (pv : Value), sv = .slice (some ⟨g, 0, none⟩) ds.length cap ∧ Blk w g cs 46 ∧ Cs4 cs k (.int .i64 x.kind) pv (.int .i64 x.wd) (.int .i64 x.len) ∧ OwnR w fb (fb + 1) pv x.pins ∧ (lo ≤ fb ∧ fb < hi) ∧ (lo ≤ g ∧ g < hi) ∧ fb ≠ g ∧ ds.length ≤ maxLen ∧
      ∀ w' zs, zs.length = x.pins.length → Within fb (fb + 1) w w' → OwnR w' fb (fb + 1) pv zs → OwnDs w' lo hi sv (ds.set k ⟨x.kind, zs, x.wd, x.len⟩) := by
  rcases h with ⟨_, _, _, rfl⟩ | ⟨g, cap, cs, f, h1, h2, h3, h4, h5, h6, h7⟩
  · simp at hx
  obtain ⟨⟨pv, c4, hR⟩, hf⟩ := h6 k x hx
  have hk := (List.getElem?_eq_some_iff.1 hx).1
  refine ⟨g, cap, cs, f k, pv, h1, h5, c4, hR, ⟨hf.1, hf.2.1⟩, h2, hf.2.2, by omega, fun w' zs hzl hW hR' => ?_⟩
  refine .inr ⟨g, cap, cs, f, by rw [List.length_set]; exact h1, h2, by rw [List.length_set]; exact h3, h4, hW.blk h5 (by omega), fun i y hy => ?_, fun i j hi hj hij => h7 i j (by rwa [List.length_set] at hi) (by rwa [List.length_set] at hj) hij⟩
  by_cases e : k = i
  · subst e
    rw [List.getElem?_set_self hk] at hy
    cases hy
    exact ⟨⟨pv, c4, hR'⟩, hf⟩
  · rw [List.getElem?_set_ne e] at hy
    obtain ⟨⟨pv', c4', hR2⟩, hf'⟩ := h6 i y hy
    have hi := (List.getElem?_eq_some_iff.1 hy).1
    have := h7 k i hk hi e
    exact ⟨⟨pv', c4', OwnR.past hW hR2 (by omega)⟩, hf'⟩
theorem OwnPs.setNet {w : World} {lo hi : Nat} {sv : Value} {ps : List Pt} {k : Nat} {x : Pt} (h : OwnPs w lo hi sv ps) (hx : ps[k]? = some x) :
    ∃ (g cap : Nat) (cs : Array Value), sv = .slice (some ⟨g, 0, none⟩) ps.length cap ∧ Blk w g cs 70 ∧ Cs2 cs k (.string x.name) (.int .i64 x.net) ∧ (lo ≤ g ∧ g < hi) ∧ ps.length ≤ maxLen ∧
      ∀ w' z, Blk w' g (cs.setIfInBounds (k * 2 + 1) (.int .i64 z)) 70 → OwnPs w' lo hi sv (ps.set k ⟨x.name, z⟩) := by
  rcases h with ⟨_, _, _, rfl⟩ | ⟨g, cap, cs, h1, h2, h3, h4, h5, h6⟩
  · simp at hx
  have hk := (List.getElem?_eq_some_iff.1 hx).1
  refine ⟨g, cap, cs, h1, h5, h6 k x hx, h2, by omega, fun w' z hB => ?_⟩
  refine .inr ⟨g, cap, _, by rw [List.length_set]; exact h1, h2, by rw [List.length_set]; exact h3, h4, hB, fun i y hy => ?_⟩
  obtain ⟨q0, q1⟩ := h6 k x hx
  have hs := (Array.getElem?_eq_some_iff.1 q1).1
  by_cases e : k = i
  · subst e
    rw [List.getElem?_set_self hk] at hy
    cases hy
    refine ⟨?_, ?_⟩ <;> simp only [Array.getElem?_setIfInBounds]
    · rw [if_neg (by omega)]; exact q0
    · rw [if_pos trivial, if_pos hs]
  · rw [List.getElem?_set_ne e] at hy
    obtain ⟨r0, r1⟩ := h6 i y hy
    refine ⟨?_, ?_⟩ <;> simp only [Array.getElem?_setIfInBounds]
    · rw [if_neg (by omega)]; exact r0
    · rw [if_neg (by omega)]; exact r1
section
variable {α : Type} (f : α → α)
def upTo (xs : List α) (k : Nat) : List α := (xs.take k).map f ++ xs.drop k
theorem upTo_zero (xs : List α) : upTo f xs 0 = xs := by simp [upTo]
theorem upTo_all (xs : List α) : upTo f xs xs.length = xs.map f := by simp [upTo]
theorem length_upTo (xs : List α) (k : Nat) : (upTo f xs k).length = xs.length := by simp [upTo]; omega
theorem upTo_get (xs : List α) (k : Nat) (x : α) (h : xs[k]? = some x) : (upTo f xs k)[k]? = some x := by
  have hk := (List.getElem?_eq_some_iff.1 h).1
  rw [upTo, List.getElem?_append_right (by simp; omega)]
  simp
  rw [show k - min k xs.length = 0 by omega]
  simpa using h
theorem upTo_step (xs : List α) (k : Nat) (x : α) (h : xs[k]? = some x) : (upTo f xs k).set k (f x) = upTo f xs (k + 1) := by
  have hk := (List.getElem?_eq_some_iff.1 h).1
  apply List.ext_getElem?
  intro i
  have e : xs[k] = x := by rw [List.getElem?_eq_getElem hk] at h; exact Option.some.inj h
  unfold upTo
  rw [take_snoc_of xs k x h]
  by_cases hi : i = k
  · subst hi
    rw [List.getElem?_set_self (by simp; omega)]
    rw [List.getElem?_append_left (by simp; omega), List.map_append, List.getElem?_append_right (by simp; omega)]
    simp
    rw [show i - min i xs.length = 0 by omega]
    rfl
  · rw [List.getElem?_set_ne (by omega)]
    by_cases hlt : i < k
    · rw [List.getElem?_append_left (by simp; omega), List.getElem?_append_left (by simp; omega), List.map_append, List.getElem?_append_left (by simp; omega)]
    · rw [List.getElem?_append_right (by simp; omega), List.getElem?_append_right (by simp; omega)]
      simp
      congr 1
      omega
end
def iota (n : Nat) : List Int := (List.range n).map (fun (i : Nat) => (i : Int))
theorem length_iota (n : Nat) : (iota n).length = n := by simp [iota]
def srt (zs : List Int) : List Int := zs.mergeSort (fun x y => decide (x ≤ y))
theorem length_srt (zs : List Int) : (srt zs).length = zs.length := by simp [srt]
theorem srt_perm (zs : List Int) : (srt zs).Perm zs := List.mergeSort_perm _ _
theorem srt_pairwise (zs : List Int) : (srt zs).Pairwise (fun x y => decide (x ≤ y) = true) :=
  List.pairwise_mergeSort (fun a b c h1 h2 => by simp at *; omega) (fun a b => by simp; omega) zs
/- A slice of int64 that grows in memory of the call's own. -/
def icells (zs : List Int) : List Value := zs.map (Value.int .i64)
theorem icells_push (zs ys : List Int) : icells (zs ++ ys) = icells zs ++ icells ys := by simp [icells]
def BldI (w : World) (lo hi : Nat) (v : Value) (zs : List Int) : Prop := hi ≤ w.heap.size ∧ w.ownsRow lo 2 1 v zs.length (icells zs) ∧ (∀ g, v.ownBlock = some g → lo ≤ g ∧ g < hi)
section
variable {w w' : World} {lo hi : Nat} {v : Value} {zs : List Int}
theorem BldI.nil (w : World) (lo : Nat) : BldI w lo w.heap.size (.slice none 0 0) [] :=
  ⟨Nat.le_refl _, World.ownsRow_nil w lo _ 1, by intro g h; cases h⟩
theorem BldI.lit {g : Nat} {cs : Array Value} (h : Blk w g cs 2) (hcs : cs.toList = icells zs) (hm : zs.length ≤ 1048576) (hlo : lo ≤ g) (hhi : g < hi) (hs : hi ≤ w.heap.size) : BldI w lo hi (.slice (some ⟨g, 0, none⟩) zs.length zs.length) zs := by
  have hl : cs.size = zs.length := by rw [← Array.length_toList, hcs]; simp [icells]
  refine ⟨hs, ⟨by simp [icells], .inr ⟨g, zs.length, cs, rfl, hlo, h, Nat.le_refl _, by unfold maxLen; omega, by omega, ?_⟩⟩, ?_⟩
  · rw [hcs, Nat.mul_one, List.take_of_length_le (by simp [icells])]
  · intro g' hg'
    have : g = g' := by injection hg'
    omega
theorem BldI.by (hb : Below w.heap.size w w') (h : BldI w lo hi v zs) : BldI w' lo hi v zs := by
  obtain ⟨hs, h1, h3⟩ := h
  exact ⟨Nat.le_trans hs hb.size, row_same h1 (fun g hg => hb.block g (by have := h3 g hg; omega)), h3⟩
theorem BldI.past {lo' hi' : Nat} (hb : Within lo' hi' w w') (h : BldI w lo hi v zs) (hd : hi' ≤ lo ∨ hi ≤ lo') : BldI w' lo hi v zs := by
  obtain ⟨hs, h1, h3⟩ := h
  exact ⟨Nat.le_trans hs hb.size, row_same h1 (fun g hg => hb.block g (by have := h3 g hg; omega) (by have := h3 g hg; omega)), h3⟩
theorem BldI.sized (h : BldI w lo hi v zs) : ∃ a c, v = .slice a zs.length c := by
  obtain ⟨_, ⟨_, h1⟩, _⟩ := h
  rcases h1 with ⟨h1, h2⟩ | ⟨g, cap, cur, e1, _⟩
  · exact ⟨none, 0, by rw [h1, h2]⟩
  · exact ⟨_, _, e1⟩
theorem BldI.own (h : BldI w lo hi v zs) : OwnR w lo hi v zs := by
  obtain ⟨hs, ⟨hlen, h1⟩, h3⟩ := h
  rcases h1 with ⟨h1, hn⟩ | ⟨g, cap, cur, e1, e2, e3, e4, e5, e6, e7⟩
  · exact .inl ⟨_, _, h1, List.eq_nil_of_length_eq_zero hn⟩
  · have h4 := h3 g (by rw [e1]; rfl)
    refine .inr ⟨g, cap, cur, e1, h4.1, h4.2, e4, e5, e3, fun i x hx => ?_⟩
    have hi' : i < zs.length := (List.getElem?_eq_some_iff.1 hx).1
    have : (icells zs)[i]? = some (.int .i64 x) := by simp [icells, hx]
    rw [← e7, List.getElem?_take_of_lt (by omega)] at this
    simpa using this
end
theorem step_pushI {ops : Array Oper} {o : Oper} {a : Act} {w : World} {K : Act → World → Prop} {Q : Exit → Act → World → Prop} {E : Prop} (hgd : o.guard = none) (s x : Operand)
    (ho : o.op = .call { callee := .builtin .append, args := #[s, x], argTypes := #[44, 44] })
    (lo hi : Nat) (v : Value) (zs ys : List Int) (hs : a.eval s = v) (hB : BldI w lo hi v zs) (nb m : Nat) (cs : Array Value) (hx : a.eval x = .slice (some ⟨nb, 0, none⟩) m m) (hys : ys.length = m) (hm : 0 < m)
    (hnb : Blk w nb cs 2) (hcs : cs.toList = icells ys) (hlo : lo ≤ hi) (hn : zs.length + m ≤ 8000000)
    (hK : ∀ a' c' w', BldI w' lo w'.heap.size (.slice a' (zs.length + m) c') (zs ++ ys) → Within lo hi w w' → K (a.put o.dst (.slice a' (zs.length + m) c')) w') :
    if Region.wanted o (yielded ops a.tmps) = true then Oper.wp Tryz.prog o a w K Q else E := by
  obtain ⟨i0, hi0, hz0, hz1, hz2⟩ := info_parts infoI
  obtain ⟨hsz, h1, h3⟩ := hB
  refine step_append_lies w hgd s x 44 ho lo 2 i0 _ 1 8 Tryz.underlying44 hi0 hz0 hz1 hz2 rfl (by decide) v zs.length _ hs h1 ⟨nb, 0, none⟩ m m (icells ys) hx (by simp [icells, hys]) (by rw [← hcs]; exact World.news_of_block (cs := cs) hnb) ?_ hm (by unfold maxLen; omega) (by omega) (by omega) w.heap.size rfl ?_
  · intro u hu
    simp only [icells, List.mem_map] at hu
    obtain ⟨_, _, rfl⟩ := hu
    rfl
  · intro g cap w' hrow hgrow hg hgl
    have hW : Within lo hi w w' := grown_within hgrow h3
    refine hK (some ⟨g, 0, none⟩) cap w' ⟨Nat.le_refl _, ?_, ?_⟩ hW
    · rw [List.length_append, hys, icells_push]; exact hrow
    · intro g' hg'
      have : g = g' := by injection hg'
      subst this
      rcases hg with h | h
      · have := h3 g h; omega
      · omega
theorem list_pushI {ops : Array Oper} {rest : List Oper} {o : Oper} {a : Act} {w : World} {Q : Exit → Act → World → Prop} (hgd : o.guard = none) (s x : Operand)
    (ho : o.op = .call { callee := .builtin .append, args := #[s, x], argTypes := #[44, 44] })
    (lo hi : Nat) (v : Value) (zs ys : List Int) (hs : a.eval s = v) (hB : BldI w lo hi v zs) (nb m : Nat) (cs : Array Value) (hx : a.eval x = .slice (some ⟨nb, 0, none⟩) m m) (hys : ys.length = m) (hm : 0 < m)
    (hnb : Blk w nb cs 2) (hcs : cs.toList = icells ys) (hlo : lo ≤ hi) (hn : zs.length + m ≤ 8000000)
    (hK : ∀ a' c' w', BldI w' lo w'.heap.size (.slice a' (zs.length + m) c') (zs ++ ys) → Within lo hi w w' → wpList Tryz.prog ops Q rest (a.put o.dst (.slice a' (zs.length + m) c')) w') : wpList Tryz.prog ops Q (o :: rest) a w :=
  wpList_plain hgd fun K hk => by
    have h := step_pushI (ops := ops) (K := K) (Q := Q) (E := False) hgd s x ho lo hi v zs ys hs hB nb m cs hx hys hm hnb hcs hlo hn (fun a' c' w' h1 h2 => hk _ _ (hK a' c' w' h1 h2))
    rwa [if_pos (by simp [Region.wanted, hgd])] at h
section
variable {P : Program} {ops : Array Oper} {Q : Exit → Act → World → Prop} {md : Region.Mode} {S : World → Prop} {l : Nat}
theorem opsL {i : Nat} {oi : Oper} (hi : ops.toList[i]? = some oi) : ops[i]? = some oi := by rw [← Array.getElem?_toList]; exact hi
theorem wpAnyE_takeL {i : Nat} {oi : Oper} {v : Value} {fuel : Nat} {listed : Array Bool} {a : Act} {w : World} (hi : ops.toList[i]? = some oi)
    (hk : (Region.noSelect ops && Region.free md ops listed i && (Region.ready md ops listed).contains i && headB md ops l listed && Region.sinkB md ops l && Region.chainB md ops l && decide (l < ops.size) && decide (i < l)) = true)
    (hQ : ∀ c a w, Q (.panic c) (a.put oi.dst v) w → Q (.panic c) a w) (hy : YieldsIf P ops S oi v a) (hS : S w)
    (h : wpAnyE P md ops Q S l fuel (listed.setIfInBounds i true) (a.put oi.dst v) w) : wpAnyE P md ops Q S l (fuel + 1) listed a w :=
  wpAnyE_take (opsL hi) hk hQ hy hS h
theorem wpAnyE_oneL {k : Nat} {o : Oper} {fuel : Nat} {listed : Array Bool} {a : Act} {w : World} (hr : Region.ready md ops listed = [k]) (ho : ops.toList[k]? = some o)
    (h : ∀ K' : Act → World → Prop, Shut (∀ a w, (k ≠ l → S w) → wpAnyE P md ops Q S l fuel (listed.setIfInBounds k true) a w → K' a w) → if Region.wanted o (yielded ops a.tmps) = true then Oper.wp P o a w K' Q else K' (a.put o.dst undef) w) :
    wpAnyE P md ops Q S l (fuel + 1) listed a w := wpAnyE_one hr (opsL ho) h
end
theorem icells_set (zs : List Int) (i : Nat) (y : Int) : icells (zs.set i y) = (icells zs).set i (.int .i64 y) := by simp [icells, List.map_set]
theorem BldI.setAt {w : World} {lo hi G n cap : Nat} {zs : List Int} (h : BldI w lo hi (.slice (some ⟨G, 0, none⟩) n cap) zs) (i : Nat) (y : Int) : BldI (w.setCell ⟨G, i, none⟩ (.int .i64 y)) lo hi (.slice (some ⟨G, 0, none⟩) n cap) (zs.set i y) := by
  obtain ⟨hs, ⟨hlen, r⟩, h3⟩ := h
  refine ⟨by simpa using hs, ⟨by simp [icells], ?_⟩, h3⟩
  rcases r with ⟨r1, _⟩ | ⟨g, cap', cur, e1, e2, e3, e4, e5, e6, e7⟩
  · cases r1
  · have hg : G = g := by have := congrArg Value.ownBlock e1; simpa [Value.ownBlock] using this
    subst hg
    refine .inr ⟨G, cap', cur.setIfInBounds i (.int .i64 y), by rw [List.length_set]; exact e1, e2, Blk.set e3 i _, by rw [List.length_set]; exact e4, e5, by simpa using e6, ?_⟩
    rw [icells_set, ← e7, List.length_set, Array.toList_setIfInBounds, List.take_set]
theorem BldI.blk {w : World} {lo hi : Nat} {v : Value} {zs : List Int} (h : BldI w lo hi v zs) (h0 : 0 < zs.length) :
    ∃ G cap cs, v = .slice (some ⟨G, 0, none⟩) zs.length cap ∧ (lo ≤ G ∧ G < hi) ∧ Blk w G cs 2 ∧ ∀ (i : Nat) z, zs[i]? = some z → w.cell? ⟨G, i, none⟩ = some (.int .i64 z) := by
  obtain ⟨hs, ⟨hlen, r⟩, h3⟩ := h
  rcases r with ⟨_, r1⟩ | ⟨g, cap', cur, rfl, e2, e3, e4, e5, e6, e7⟩
  · omega
  · refine ⟨g, cap', cur, rfl, h3 g rfl, e3, fun i z hz => ?_⟩
    have hi : i < zs.length := (List.getElem?_eq_some_iff.1 hz).1
    have : (icells zs)[i]? = some (.int .i64 z) := by simp [icells, hz]
    rw [← e7, List.getElem?_take_of_lt (by omega)] at this
    rw [Blk.cell e3]
    simpa using this
theorem Only.within {g : Nat} {w w' : World} (h : Only g w w') : Within g (g + 1) w w' := ⟨h.os, h.tape, h.output, Nat.le_of_eq h.size.symm, fun k _ hne => h.block k (by omega)⟩
theorem BldI.only {g : Nat} {w w' : World} {lo hi : Nat} {v : Value} {zs : List Int} (ho : Only g w w') (h : BldI w lo hi v zs) (hg : g < lo) : BldI w' lo hi v zs := BldI.past ho.within h (.inl (by omega))
/- The draw of two orders, and of a matching. -/
def MaO (m : Nat) (w : World) (v : Value) (z : List Int × List Int) : Prop := ∃ s1 s2, v = .agg #[s1, s2] ∧ (∃ lo hi, m ≤ lo ∧ OwnR w lo hi s1 z.1) ∧ ∃ lo hi, m ≤ lo ∧ OwnR w lo hi s2 z.2
theorem MaO.by {m : Nat} {w w' : World} {v : Value} {z : List Int × List Int} (hb : Below w.heap.size w w') (h : MaO m w v z) : MaO m w' v z := by
  obtain ⟨s1, s2, e, ⟨_, _, a1, h1⟩, _, _, a2, h2⟩ := h
  exact ⟨s1, s2, e, ⟨_, _, a1, h1.by hb⟩, _, _, a2, h2.by hb⟩
theorem MaO.past {m lo hi : Nat} {w w' : World} {v : Value} {z : List Int × List Int} (hb : Within lo hi w w') (h : MaO m w v z) (hm : hi ≤ m) : MaO m w' v z := by
  obtain ⟨s1, s2, e, ⟨_, _, a1, h1⟩, _, _, a2, h2⟩ := h
  exact ⟨s1, s2, e, ⟨_, _, a1, h1.past hb (.inr (by omega))⟩, _, _, a2, h2.past hb (.inr (by omega))⟩
theorem MaO.low {m m' : Nat} {w : World} {v : Value} {z : List Int × List Int} (h : MaO m w v z) (hm : m' ≤ m) : MaO m' w v z := by
  obtain ⟨s1, s2, e, ⟨_, _, a1, h1⟩, _, _, a2, h2⟩ := h
  exact ⟨s1, s2, e, ⟨_, _, by omega, h1⟩, _, _, by omega, h2⟩
/- The draw of a matching for a netlist. -/
end Go.Proofs.YtacbdmngcdhgoaaGreat
