/- The size of a slice of devices. -/
import Derived.Test.YthcaipohdeigeaaDevS
namespace Go.Proofs.Ythcaipohdeigeaa
open Go.RowKit
set_option linter.unusedVariables false
set_option linter.unusedSimpArgs false

set_option maxRecDepth 100000 in
set_option maxHeartbeats 2000000 in
theorem szDeviceS_any (sv : Value) (xs : List Dv) (l : Int) (w : World) (h : DvSl w sv xs) (hl : 0 ≤ l) (hl' : l ≤ 1048576) :
    Calls Try.prog 66 #[sv, .int .i64 l] w fun e w' => e = .returned (.int .i64 (if l < xs.length + pinsAll xs then -1 else l - xs.length - pinsAll xs)) ∧ Below w.heap.size w w' := by
  obtain ⟨r, hr⟩ : ∃ r : Int, (if l < xs.length + pinsAll xs then (-1 : Int) else l - xs.length - pinsAll xs) = r := ⟨_, rfl⟩
  rw [hr]
  have HR := Lib.hid hr
  clear hr
  have hpn := pinsAll_nonneg xs
  rcases h with ⟨a, c, rfl, rfl⟩ | ⟨b, off, cap, rfl, h2, h3, h4⟩
  · go_enter Try.func66, Try.ntmps66
    go_wp2
    go_loopw [1, 5] (fun v i wr => i = .int .i64 0 ∧ v = .int .i64 l ∧ wr = w) (fun _ _ _ => 0)
    case atStart => exact ⟨rfl, by simp, rfl⟩
    case round =>
      obtain ⟨rfl, rfl, rfl⟩ := hrel
      go_wp2
      go_ret
      exact ⟨ret_i64 (by rw [← HR.out]; simp [pinsAll]; omega), Below.refl _ _⟩
  · unfold maxLen at h3
    by_cases hbig : l < xs.length
    · clear h4
      go_enter Try.func66, Try.ntmps66
      go_wp2
      go_ret
      exact ⟨ret_i64 (by rw [← HR.out, if_pos (by omega)]), Below.refl _ _⟩
    · go_enter Try.func66, Try.ntmps66
      go_wp2
      go_loopw [1, 5] (fun v i wr => ∃ k : Nat, k ≤ xs.length ∧ i = .int .i64 k ∧ (∃ f : Int, v = .int .i64 f ∧ f = l - xs.length - pinsAll (xs.take k) ∧ 0 ≤ f) ∧ Below w.heap.size w wr) (fun _ i _ => xs.length - (intOf i).toNat)
      case atStart => exact ⟨0, Nat.zero_le _, rfl, ⟨_, rfl, by simp [pinsAll], by omega⟩, Below.refl _ _⟩
      case round =>
        obtain ⟨k, hk, rfl, ⟨f, rfl, hf, hf0⟩, hb⟩ := hrel
        by_cases hlt : k < xs.length
        · obtain ⟨x, hx⟩ : ∃ x, xs[k]? = some x := ⟨xs[k], List.getElem?_eq_getElem hlt⟩
          obtain ⟨sv, c1, c2, c3, c4, hS⟩ := (h4 k x hx).by hb
          have HT := Lib.hid (pinsAll_take xs k x hx)
          have HM := Lib.hid (pinsAll_mono xs (k + 1))
          have HK := Lib.hid (pinsAll_nonneg (xs.take k))
          have HF := Lib.hid hf
          have hfl : f ≤ 1048576 := by have := pinsAll_nonneg (xs.take k); omega
          have HZ := Lib.hid (fun w h => szDevice_any x.kind x.wd x.len sv x.pins f w h hf0 hfl)
          obtain ⟨a', c', rfl⟩ := hS.len
          clear h4 hx hf
          have i1 : (0 : Int) ≤ (k : Int) := by omega
          have i2 : (k : Int) < (xs.length : Int) := by omega
          by_cases hsm : f < x.pins.length
          · have HZ' := HZ.out
            simp only [if_pos hsm] at HZ'
            have HZ2 := Lib.hid HZ'
            clear HZ HZ'
            go_wp2_with fail
            refine (HZ2.out _ hS).mono ?_
            rintro e w1 ⟨rfl, hb1⟩
            go_wp2
            go_ret
            refine ⟨ret_i64 ?_, below_on hb1 hb⟩
            rw [← HR.out, if_pos]
            have := HT.out; have := HM.out; have := HF.out; omega
          · have HZ' := HZ.out
            simp only [if_neg hsm] at HZ'
            have HZ2 := Lib.hid HZ'
            clear HZ HZ'
            obtain ⟨f', hf'⟩ : ∃ f' : Int, f - x.pins.length = f' := ⟨_, rfl⟩
            rw [hf'] at HZ2
            have HF' := Lib.hid hf'
            have hf'0 : 0 ≤ f' := by omega
            clear hf' hsm
            go_wp2_with fail
            refine (HZ2.out _ hS).mono ?_
            rintro e w1 ⟨rfl, hb1⟩
            go_wp2
            exact ⟨⟨k + 1, by omega, by go_num, ⟨f', rfl, by have := HT.out; have := HF.out; have := HF'.out; omega, hf'0⟩, below_on hb1 hb⟩, by simp [intOf]; omega⟩
        · obtain rfl : k = xs.length := by omega
          rw [List.take_length] at hf
          go_wp2
          go_ret
          exact ⟨ret_i64 (by rw [← HR.out, if_neg (by omega)]; exact hf), hb⟩
end Go.Proofs.Ythcaipohdeigeaa
