/- The size of a slice of ports. -/
import Derived.Test.YthcaipohdeigeaaPortF
namespace Go.Proofs.Ythcaipohdeigeaa
open Go.RowKit
set_option linter.unusedVariables false
set_option linter.unusedSimpArgs false

/-- What the names of the ports take up. -/
def namesAll : List Pt → Int
  | [] => 0
  | x :: xs => x.name.size + namesAll xs
theorem namesAll_nonneg : ∀ xs : List Pt, 0 ≤ namesAll xs
  | [] => by simp [namesAll]
  | x :: xs => by have := namesAll_nonneg xs; simp only [namesAll]; omega
theorem namesAll_take (xs : List Pt) (k : Nat) (x : Pt) (h : xs[k]? = some x) : namesAll (xs.take (k + 1)) = namesAll (xs.take k) + x.name.size := by
  induction xs generalizing k with
  | nil => simp at h
  | cons y ys ih =>
    cases k with
    | zero => simp at h; subst h; simp [namesAll]
    | succ k =>
      simp at h
      have := ih k h
      simp only [List.take_succ_cons, namesAll]
      omega
theorem namesAll_mono (xs : List Pt) (k : Nat) : namesAll (xs.take k) ≤ namesAll xs := by
  induction xs generalizing k with
  | nil => simp
  | cons y ys ih =>
    cases k with
    | zero => simp [namesAll]; have := namesAll_nonneg ys; omega
    | succ k => have := ih k; simp only [List.take_succ_cons, namesAll]; omega
def Pt.ok (x : Pt) : Prop := x.name.size ≤ 9223372036854775807 ∧ Fits x.net

set_option maxRecDepth 100000 in
set_option maxHeartbeats 2000000 in
theorem szPortS_any (sv : Value) (xs : List Pt) (l : Int) (w : World) (h : PtSl w sv xs) (hok : ∀ x ∈ xs, x.ok) (hl : 0 ≤ l) (hl' : l ≤ 1048576) :
    Calls Try.prog 67 #[sv, .int .i64 l] w fun e w' => e = .returned (.int .i64 (if l < xs.length + namesAll xs then -1 else l - xs.length - namesAll xs)) ∧ Below w.heap.size w w' := by
  obtain ⟨r, hr⟩ : ∃ r : Int, (if l < xs.length + namesAll xs then (-1 : Int) else l - xs.length - namesAll xs) = r := ⟨_, rfl⟩
  rw [hr]
  have HR := Lib.hid hr
  clear hr
  have hpn := namesAll_nonneg xs
  rcases h with ⟨a, c, rfl, rfl⟩ | ⟨b, off, cap, rfl, h2, h3, h4⟩
  · go_enter Try.func67, Try.ntmps67
    go_wp2
    go_loopw [1, 5] (fun v i wr => i = .int .i64 0 ∧ v = .int .i64 l ∧ wr = w) (fun _ _ _ => 0)
    case atStart => exact ⟨rfl, by simp, rfl⟩
    case round =>
      obtain ⟨rfl, rfl, rfl⟩ := hrel
      go_wp2
      go_ret
      exact ⟨ret_i64 (by rw [← HR.out]; simp [namesAll]; omega), Below.refl _ _⟩
  · unfold maxLen at h3
    by_cases hbig : l < xs.length
    · clear h4
      go_enter Try.func67, Try.ntmps67
      go_wp2
      go_ret
      exact ⟨ret_i64 (by rw [← HR.out, if_pos (by omega)]), Below.refl _ _⟩
    · have HOK := Lib.hid hok
      clear hok
      go_enter Try.func67, Try.ntmps67
      go_wp2
      go_loopw [1, 5] (fun v i wr => ∃ k : Nat, k ≤ xs.length ∧ i = .int .i64 k ∧ (∃ f : Int, v = .int .i64 f ∧ f = l - xs.length - namesAll (xs.take k) ∧ 0 ≤ f) ∧ Below w.heap.size w wr) (fun _ i _ => xs.length - (intOf i).toNat)
      case atStart => exact ⟨0, Nat.zero_le _, rfl, ⟨_, rfl, by simp [namesAll], by omega⟩, Below.refl _ _⟩
      case round =>
        obtain ⟨k, hk, rfl, ⟨f, rfl, hf, hf0⟩, hb⟩ := hrel
        by_cases hlt : k < xs.length
        · obtain ⟨x, hx⟩ : ∃ x, xs[k]? = some x := ⟨xs[k], List.getElem?_eq_getElem hlt⟩
          obtain ⟨c1, c2⟩ := (h4 k x hx).by hb
          have HT := Lib.hid (namesAll_take xs k x hx)
          have HM := Lib.hid (namesAll_mono xs (k + 1))
          have HF := Lib.hid hf
          have hfl : f ≤ 1048576 := by have := namesAll_nonneg (xs.take k); omega
          have HZ := Lib.hid (fun w => szPort_any x.name x.net f w (HOK.out x (List.mem_of_getElem? hx)).1 hf0 hfl)
          clear h4 hx hf
          have i1 : (0 : Int) ≤ (k : Int) := by omega
          have i2 : (k : Int) < (xs.length : Int) := by omega
          by_cases hsm : f < x.name.size
          · have HZ' := HZ.out
            simp only [if_pos hsm] at HZ'
            have HZ2 := Lib.hid HZ'
            clear HZ HZ'
            go_wp2_with fail
            refine (HZ2.out _).mono ?_
            rintro e w1 ⟨rfl, hb1⟩
            go_wp2
            go_ret
            refine ⟨ret_i64 ?_, below_on hb1 hb⟩
            rw [← HR.out, if_pos]
            have := HT.out; have := HM.out; have := HF.out; omega
          · have HZ' := HZ.out
            simp only [if_neg hsm] at HZ'
            have HZ2 := Lib.hid HZ'
            clear HZ HZ'
            obtain ⟨f', hf'⟩ : ∃ f' : Int, f - x.name.size = f' := ⟨_, rfl⟩
            rw [hf'] at HZ2
            have HF' := Lib.hid hf'
            have hf'0 : 0 ≤ f' := by omega
            clear hf' hsm
            go_wp2_with fail
            refine (HZ2.out _).mono ?_
            rintro e w1 ⟨rfl, hb1⟩
            go_wp2
            exact ⟨⟨k + 1, by omega, by go_num, ⟨f', rfl, by have := HT.out; have := HF.out; have := HF'.out; omega, hf'0⟩, below_on hb1 hb⟩, by simp [intOf]; omega⟩
        · obtain rfl : k = xs.length := by omega
          rw [List.take_length] at hf
          go_wp2
          go_ret
          exact ⟨ret_i64 (by rw [← HR.out, if_neg (by omega)]; exact hf), hb⟩
end Go.Proofs.Ythcaipohdeigeaa
