/- slices.IndexFunc and slices.ContainsFunc over a closure: at Int. -/
import Derived.Test.YtglddnkpccgchaaDoorBase
import Derived.Shelf.Abstract
import Derived.Test.YtglddnkpccgchaaDoorDevs
import Derived.Test.YtglddnkpccgchaaDoorNls
namespace Go.Proofs.YtglddnkpccgchaaDoor
open Go.RowKit
set_option linter.unusedVariables false
set_option linter.unusedSimpArgs false

set_option maxRecDepth 100000 in
set_option maxHeartbeats 1000000 in
theorem indexFuncI_any (g : Nat) (lb : Array Value) (eg : ∀ args w, (callFunc g args).run Tryd.prog w = .ok (.enter g args) w) (p : Int → Bool) (s0 : Value) (xs : List Int) (w : World) (h : IntSl w s0 xs)
    (hp : ∀ (W : World) (x : Int), Below w.heap.size w W → x ∈ xs → Calls Tryd.prog g (#[.int .i64 x] ++ lb) W fun e w' => e = .returned (.bool (p x)) ∧ Below W.heap.size W w') :
    Calls Tryd.prog 91 #[s0, .func (.func g) #[] lb] w fun e w' => e = .returned (.int .i64 (fidx p xs)) ∧ Below w.heap.size w w' := by
  have HH := Lib.hid (fun k x => @fidx_hit Int p xs k x)
  have HM := Lib.hid (@fidx_miss Int p xs)
  have HP := Lib.hid hp
  clear hp
  rcases h with ⟨a, c, rfl, rfl⟩ | ⟨b, off, cap, rfl, h2, h3, h4⟩
  · have hr := Lib.hid (HM.out (by simp))
    generalize fidx p [] = r at *
    go_enter Tryd.func91, Tryd.ntmps91
    go_wp2
    go_loopw [8] (fun i wr => i = .int .i64 0 ∧ wr = w) (fun _ _ => 0)
    case atStart => exact ⟨rfl, rfl⟩
    case round =>
      obtain ⟨rfl, rfl⟩ := hrel
      go_wp2
      go_ret
      exact ⟨ret_i64 hr.out.symm, Below.refl _ _⟩
  · generalize fidx p xs = r at *
    unfold maxLen at h3
    go_enter Tryd.func91, Tryd.ntmps91
    go_wp2
    go_loopw [5, 8] (fun _ i wr => ∃ k : Nat, k ≤ xs.length ∧ i = .int .i64 k ∧ Hid (∀ j y, j < k → xs[j]? = some y → p y = false) ∧ Below w.heap.size w wr) (fun _ i _ => xs.length - (intOf i).toNat)
    case atStart => exact ⟨0, Nat.zero_le _, rfl, Lib.hid (by intro j y hj; omega), Below.refl _ _⟩
    case round =>
      obtain ⟨k, hk, rfl, HI, hb⟩ := hrel
      by_cases hlt : k < xs.length
      · obtain ⟨x, hx⟩ : ∃ x, xs[k]? = some x := ⟨xs[k], List.getElem?_eq_getElem hlt⟩
        have hmem : x ∈ xs := List.mem_of_getElem? hx
        have c1 := cell_by' hb (h4 k x hx)
        have hcall := HP.out wr x hb hmem
        have HX := Lib.hid hx
        have i1 : (0 : Int) ≤ (k : Int) := by omega
        have i2 : (k : Int) < (xs.length : Int) := by omega
        skip
        clear h4 hx
        cases hq : p x with
        | true =>
          rw [hq] at hcall
          have HQ := Lib.hid hq
          have HC := Lib.hid hcall
          clear hq hcall
          go_wp2_with (go_at_fn g; refine HC.out.mono ?_; rintro e w1 ⟨rfl, hb1⟩)
          go_ret
          exact ⟨ret_i64 (HH.out k x HX.out HQ.out HI.out).symm, below_on hb1 hb⟩
        | false =>
          rw [hq] at hcall
          have HQ := Lib.hid hq
          have HC := Lib.hid hcall
          clear hq hcall
          go_wp2_with (go_at_fn g; refine HC.out.mono ?_; rintro e w1 ⟨rfl, hb1⟩)
          exact ⟨⟨k + 1, by omega, by go_num, Lib.hid (fun j y hj hy => by
            by_cases e : j = k
            · subst e; obtain rfl : y = x := Option.some.inj (hy.symm.trans HX.out); exact HQ.out
            · exact HI.out j y (by omega) hy), below_on hb1 hb⟩, by simp [intOf]; omega⟩
      · obtain rfl : k = xs.length := by omega
        have hr := Lib.hid (HM.out (fun j y hy => HI.out j y (List.getElem?_eq_some_iff.1 hy).1 hy))
        go_wp2
        go_ret
        exact ⟨ret_i64 hr.out.symm, hb⟩

set_option maxRecDepth 100000 in
set_option maxHeartbeats 1000000 in
theorem containsFuncI_any (g : Nat) (lb : Array Value) (eg : ∀ args w, (callFunc g args).run Tryd.prog w = .ok (.enter g args) w) (p : Int → Bool) (s0 : Value) (xs : List Int) (w : World) (h : IntSl w s0 xs)
    (hp : ∀ (W : World) (x : Int), Below w.heap.size w W → x ∈ xs → Calls Tryd.prog g (#[.int .i64 x] ++ lb) W fun e w' => e = .returned (.bool (p x)) ∧ Below W.heap.size W w') :
    Calls Tryd.prog 78 #[s0, .func (.func g) #[] lb] w fun e w' => e = .returned (.bool (xs.any p)) ∧ Below w.heap.size w w' := by
  have HI := Lib.hid (fun w h hp => indexFuncI_any g lb eg p s0 xs w h hp)
  have HA := Lib.hid (@fidx_any Int p xs)
  have HP := Lib.hid hp
  have HS := Lib.hid h
  obtain ⟨a, c, rfl⟩ := h.len
  generalize xs.any p = r at *
  generalize fidx p xs = q at *
  clear hp h
  go_enter Tryd.func78, Tryd.ntmps78
  go_wp2_with fail
  refine (HI.out _ HS.out HP.out).mono ?_
  rintro e w1 ⟨rfl, hb1⟩
  go_wp2
  go_ret
  exact ⟨ret_bool HA.out, hb1⟩
end Go.Proofs.YtglddnkpccgchaaDoor

/- slices.IndexFunc and slices.ContainsFunc over a closure: at Dv. -/
namespace Go.Proofs.YtglddnkpccgchaaDoor
open Go.RowKit
set_option linter.unusedVariables false
set_option linter.unusedSimpArgs false

set_option maxRecDepth 100000 in
set_option maxHeartbeats 1000000 in
theorem indexFuncD_any (g : Nat) (lb : Array Value) (eg : ∀ args w, (callFunc g args).run Tryd.prog w = .ok (.enter g args) w) (p : Dv → Bool) (s0 : Value) (xs : List Dv) (w : World) (h : DvSl w s0 xs)
    (hp : ∀ (W : World) (x : Dv) (sv : Value), Below w.heap.size w W → x ∈ xs → IntSl W sv x.pins → Calls Tryd.prog g (#[.agg #[.int .i64 x.kind, sv, .int .i64 x.wd, .int .i64 x.len]] ++ lb) W fun e w' => e = .returned (.bool (p x)) ∧ Below W.heap.size W w') :
    Calls Tryd.prog 77 #[s0, .func (.func g) #[] lb] w fun e w' => e = .returned (.int .i64 (fidx p xs)) ∧ Below w.heap.size w w' := by
  have HH := Lib.hid (fun k x => @fidx_hit Dv p xs k x)
  have HM := Lib.hid (@fidx_miss Dv p xs)
  have HP := Lib.hid hp
  clear hp
  rcases h with ⟨a, c, rfl, rfl⟩ | ⟨b, off, cap, rfl, h2, h3, h4⟩
  · have hr := Lib.hid (HM.out (by simp))
    generalize fidx p [] = r at *
    go_enter Tryd.func77, Tryd.ntmps77
    go_wp2
    go_loopw [8] (fun i wr => i = .int .i64 0 ∧ wr = w) (fun _ _ => 0)
    case atStart => exact ⟨rfl, rfl⟩
    case round =>
      obtain ⟨rfl, rfl⟩ := hrel
      go_wp2
      go_ret
      exact ⟨ret_i64 hr.out.symm, Below.refl _ _⟩
  · generalize fidx p xs = r at *
    unfold maxLen at h3
    go_enter Tryd.func77, Tryd.ntmps77
    go_wp2
    go_loopw [5, 8] (fun _ i wr => ∃ k : Nat, k ≤ xs.length ∧ i = .int .i64 k ∧ Hid (∀ j y, j < k → xs[j]? = some y → p y = false) ∧ Below w.heap.size w wr) (fun _ i _ => xs.length - (intOf i).toNat)
    case atStart => exact ⟨0, Nat.zero_le _, rfl, Lib.hid (by intro j y hj; omega), Below.refl _ _⟩
    case round =>
      obtain ⟨k, hk, rfl, HI, hb⟩ := hrel
      by_cases hlt : k < xs.length
      · obtain ⟨x, hx⟩ : ∃ x, xs[k]? = some x := ⟨xs[k], List.getElem?_eq_getElem hlt⟩
        have hmem : x ∈ xs := List.mem_of_getElem? hx
        obtain ⟨sv, c1, c2, c3, c4, hS⟩ := (h4 k x hx).by hb
        have hcall := HP.out wr x sv hb hmem hS
        have HX := Lib.hid hx
        have i1 : (0 : Int) ≤ (k : Int) := by omega
        have i2 : (k : Int) < (xs.length : Int) := by omega
        obtain ⟨a1, c1', rfl⟩ := hS.len
        clear h4 hx
        cases hq : p x with
        | true =>
          rw [hq] at hcall
          have HQ := Lib.hid hq
          have HC := Lib.hid hcall
          clear hq hcall
          go_wp2_with (go_at_fn g; refine HC.out.mono ?_; rintro e w1 ⟨rfl, hb1⟩)
          go_ret
          exact ⟨ret_i64 (HH.out k x HX.out HQ.out HI.out).symm, below_on hb1 hb⟩
        | false =>
          rw [hq] at hcall
          have HQ := Lib.hid hq
          have HC := Lib.hid hcall
          clear hq hcall
          go_wp2_with (go_at_fn g; refine HC.out.mono ?_; rintro e w1 ⟨rfl, hb1⟩)
          exact ⟨⟨k + 1, by omega, by go_num, Lib.hid (fun j y hj hy => by
            by_cases e : j = k
            · subst e; obtain rfl : y = x := Option.some.inj (hy.symm.trans HX.out); exact HQ.out
            · exact HI.out j y (by omega) hy), below_on hb1 hb⟩, by simp [intOf]; omega⟩
      · obtain rfl : k = xs.length := by omega
        have hr := Lib.hid (HM.out (fun j y hy => HI.out j y (List.getElem?_eq_some_iff.1 hy).1 hy))
        go_wp2
        go_ret
        exact ⟨ret_i64 hr.out.symm, hb⟩

set_option maxRecDepth 100000 in
set_option maxHeartbeats 1000000 in
theorem containsFuncD_any (g : Nat) (lb : Array Value) (eg : ∀ args w, (callFunc g args).run Tryd.prog w = .ok (.enter g args) w) (p : Dv → Bool) (s0 : Value) (xs : List Dv) (w : World) (h : DvSl w s0 xs)
    (hp : ∀ (W : World) (x : Dv) (sv : Value), Below w.heap.size w W → x ∈ xs → IntSl W sv x.pins → Calls Tryd.prog g (#[.agg #[.int .i64 x.kind, sv, .int .i64 x.wd, .int .i64 x.len]] ++ lb) W fun e w' => e = .returned (.bool (p x)) ∧ Below W.heap.size W w') :
    Calls Tryd.prog 49 #[s0, .func (.func g) #[] lb] w fun e w' => e = .returned (.bool (xs.any p)) ∧ Below w.heap.size w w' := by
  have HI := Lib.hid (fun w h hp => indexFuncD_any g lb eg p s0 xs w h hp)
  have HA := Lib.hid (@fidx_any Dv p xs)
  have HP := Lib.hid hp
  have HS := Lib.hid h
  obtain ⟨a, c, rfl⟩ := h.sized
  generalize xs.any p = r at *
  generalize fidx p xs = q at *
  clear hp h
  go_enter Tryd.func49, Tryd.ntmps49
  go_wp2_with fail
  refine (HI.out _ HS.out HP.out).mono ?_
  rintro e w1 ⟨rfl, hb1⟩
  go_wp2
  go_ret
  exact ⟨ret_bool HA.out, hb1⟩
end Go.Proofs.YtglddnkpccgchaaDoor

/- slices.IndexFunc and slices.ContainsFunc over a closure: at Pt. -/
namespace Go.Proofs.YtglddnkpccgchaaDoor
open Go.RowKit
set_option linter.unusedVariables false
set_option linter.unusedSimpArgs false

end Go.Proofs.YtglddnkpccgchaaDoor
