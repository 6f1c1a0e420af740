/- Names: the two IsName. -/
import Derived.Test.YthcaipohdeigeaaBlk
import Derived.Test.YthcaipohdeigeaaOpenG
import Derived.Deep.QuietTactic
import Derived.BigQuiet
namespace Go.Proofs.Ythcaipohdeigeaa
open Go.RowKit
set_option linter.unusedVariables false
set_option linter.unusedSimpArgs false

/-- A byte of a name. -/
def chB (c : UInt8) : Bool := decide ((97 ≤ (c.toNat : Int) ∧ (c.toNat : Int) ≤ 122) ∨ (48 ≤ (c.toNat : Int) ∧ (c.toNat : Int) ≤ 57))
/-- The string is a name. -/
def nameB (s : ByteArray) : Bool := s.data.toList.all chB && decide (1 ≤ s.size ∧ s.size ≤ 8)

theorem all_at (s : ByteArray) (k : Nat) (h : k < s.size) (hp : chB s[k] = false) : nameB s = false := by
  have : s.data.toList.all chB = false := by
    rw [List.all_eq_false]
    refine ⟨s[k], ?_, by simp [hp]⟩
    exact Array.mem_toList_iff.2 (Array.getElem_mem (xs := s.data) h)
  simp [nameB, this]
theorem all_of (s : ByteArray) (h : ∀ (k : Nat) (hk : k < s.size), chB s[k] = true) : nameB s = decide (1 ≤ s.size ∧ s.size ≤ 8) := by
  have : s.data.toList.all chB = true := by
    rw [List.all_eq_true]
    intro x hx
    obtain ⟨k, hk, rfl⟩ := List.mem_iff_getElem.1 hx
    exact h k (by simpa using hk)
  simp [nameB, this]

set_option maxRecDepth 100000 in
set_option maxHeartbeats 1000000 in
theorem specIsName_any (s : ByteArray) (w : World) (hs : s.size ≤ 9223372036854775807) :
    Calls Try.prog 70 #[.string s] w fun e w' => e = .returned (.bool (nameB s)) ∧ w = w' := by
  have HN := Lib.hid (all_at s)
  have HA := Lib.hid (all_of s)
  generalize nameB s = r at *
  go_enter Try.func70, Try.ntmps70
  go_wp2
  go_loop [3] (fun i => ∃ k : Nat, k ≤ s.size ∧ i = .int .i64 k ∧ Hid (∀ (j : Nat) (hj : j < s.size), j < k → chB s[j] = true)) (fun i => s.size - (intOf i).toNat)
  case atStart => exact ⟨0, Nat.zero_le _, rfl, Lib.hid (by intro j _ h; omega)⟩
  case round =>
    obtain ⟨k, hk, rfl, HK⟩ := hrel
    by_cases hlt : k < s.size
    · have hc0 : (0 : Int) ≤ (s[k].toNat : Int) := by omega
      by_cases hch : chB s[k] = true
      · have HE := Lib.hid hch
        simp only [chB, decide_eq_true_eq] at hch
        rcases hch with ⟨h1, h2⟩ | ⟨h1, h2⟩
        all_goals
          go_wp2
          go_round
          case rel => exact ⟨k + 1, by omega, by go_num, Lib.hid (fun j hj hjk => by
            by_cases e : j = k
            · subst e; exact HE.out
            · exact HK.out j hj (by omega))⟩
          case measure => simp [intOf]; omega
      · have hr := Lib.hid (HN.out k hlt (by simpa using hch))
        simp only [chB, decide_eq_true_eq, not_or, not_and] at hch
        have hq : ((s[k].toNat : Int) < 48) ∨ ((57 : Int) < (s[k].toNat : Int) ∧ (s[k].toNat : Int) < 97) ∨ ((122 : Int) < (s[k].toNat : Int)) := by omega
        clear hch
        rcases hq with h1 | ⟨h1, h2⟩ | h1
        all_goals
          go_wp2
          all_goals first
            | (exfalso; simp only [Bool.not_eq_false', Bool.not_eq_eq_eq_not, Bool.not_false, Bool.not_true, decide_eq_true_eq] at *; omega)
            | (go_ret; exact ⟨ret_bool hr.out.symm, rfl⟩)
    · obtain rfl : k = s.size := by omega
      have hr := Lib.hid (HA.out (fun j hj => HK.out j hj hj))
      go_wp2
      all_goals
        go_ret
        exact ⟨ret_bool (by rw [hr.out, Bool.eq_iff_iff]; simp; omega), rfl⟩

set_option maxRecDepth 100000 in
set_option maxHeartbeats 1000000 in
theorem implIsName_any (s : ByteArray) (w : World) (hs : s.size ≤ 9223372036854775807) :
    Calls Try.prog 74 #[.string s] w fun e w' => e = .returned (.bool (nameB s)) ∧ w = w' := by
  have HN := Lib.hid (all_at s)
  have HA := Lib.hid (all_of s)
  generalize nameB s = r at *
  go_enter Try.func74, Try.ntmps74
  go_wp2
  go_loop [3] (fun i => ∃ k : Nat, k ≤ s.size ∧ i = .int .i64 k ∧ Hid (∀ (j : Nat) (hj : j < s.size), j < k → chB s[j] = true)) (fun i => s.size - (intOf i).toNat)
  case atStart => exact ⟨0, Nat.zero_le _, rfl, Lib.hid (by intro j _ h; omega)⟩
  case round =>
    obtain ⟨k, hk, rfl, HK⟩ := hrel
    by_cases hlt : k < s.size
    · have hc0 : (0 : Int) ≤ (s[k].toNat : Int) := by omega
      by_cases hch : chB s[k] = true
      · have HE := Lib.hid hch
        simp only [chB, decide_eq_true_eq] at hch
        rcases hch with ⟨h1, h2⟩ | ⟨h1, h2⟩
        all_goals
          go_wp2
          go_round
          case rel => exact ⟨k + 1, by omega, by go_num, Lib.hid (fun j hj hjk => by
            by_cases e : j = k
            · subst e; exact HE.out
            · exact HK.out j hj (by omega))⟩
          case measure => simp [intOf]; omega
      · have hr := Lib.hid (HN.out k hlt (by simpa using hch))
        simp only [chB, decide_eq_true_eq, not_or, not_and] at hch
        have hq : ((s[k].toNat : Int) < 48) ∨ ((57 : Int) < (s[k].toNat : Int) ∧ (s[k].toNat : Int) < 97) ∨ ((122 : Int) < (s[k].toNat : Int)) := by omega
        clear hch
        rcases hq with h1 | ⟨h1, h2⟩ | h1
        all_goals
          go_wp2
          all_goals first
            | (exfalso; simp only [Bool.not_eq_false', Bool.not_eq_eq_eq_not, Bool.not_false, Bool.not_true, decide_eq_true_eq] at *; omega)
            | (go_ret; exact ⟨ret_bool hr.out.symm, rfl⟩)
    · obtain rfl : k = s.size := by omega
      have hr := Lib.hid (HA.out (fun j hj => HK.out j hj hj))
      go_wp2
      all_goals
        go_ret
        exact ⟨ret_bool (by rw [hr.out, Bool.eq_iff_iff]; simp; omega), rfl⟩
end Go.Proofs.Ythcaipohdeigeaa
