/- bits.OnesCount of a small number. -/
import Derived.Test.YtjolkdckhmmenaaPartW
import Derived.Deep.DeepCutAuto
namespace Go.Proofs.Ytjolkdckhmmenaa
open Go.RowKit
set_option linter.unusedVariables false
set_option linter.unusedSimpArgs false

def ones1 (s : Nat) : Nat := (IntKind.u64.wrap (bits BinOp.and IntKind.u64 ((s : Int) / 2) 6148914691236517205 + bits BinOp.and IntKind.u64 ((s : Int)) 6148914691236517205)).toNat
theorem ones1_eq : ∀ s : Nat, s < 256 → IntKind.u64.wrap (bits BinOp.and IntKind.u64 ((s : Int) / 2) 6148914691236517205 + bits BinOp.and IntKind.u64 ((s : Int)) 6148914691236517205) = ((ones1 s : Nat) : Int) := by decide +kernel
def ones2 (s : Nat) : Nat := (IntKind.u64.wrap (bits BinOp.and IntKind.u64 (((ones1 s : Nat) : Int) / 4) 3689348814741910323 + bits BinOp.and IntKind.u64 (((ones1 s : Nat) : Int)) 3689348814741910323)).toNat
theorem ones2_eq : ∀ s : Nat, s < 256 → IntKind.u64.wrap (bits BinOp.and IntKind.u64 (((ones1 s : Nat) : Int) / 4) 3689348814741910323 + bits BinOp.and IntKind.u64 (((ones1 s : Nat) : Int)) 3689348814741910323) = ((ones2 s : Nat) : Int) := by decide +kernel
def ones3 (s : Nat) : Nat := (bits BinOp.and IntKind.u64 (((ones2 s : Nat) : Int) / 16 + ((ones2 s : Nat) : Int)) 1085102592571150095).toNat
theorem ones3_eq : ∀ s : Nat, s < 256 → bits BinOp.and IntKind.u64 (((ones2 s : Nat) : Int) / 16 + ((ones2 s : Nat) : Int)) 1085102592571150095 = ((ones3 s : Nat) : Int) := by decide +kernel
def ones4 (s : Nat) : Nat := ((((ones3 s : Nat) : Int) + ((ones3 s : Nat) : Int) / 256)).toNat
theorem ones4_eq : ∀ s : Nat, s < 256 → (((ones3 s : Nat) : Int) + ((ones3 s : Nat) : Int) / 256) = ((ones4 s : Nat) : Int) := by decide +kernel
def ones5 (s : Nat) : Nat := ((((ones4 s : Nat) : Int) + ((ones4 s : Nat) : Int) / 65536)).toNat
theorem ones5_eq : ∀ s : Nat, s < 256 → (((ones4 s : Nat) : Int) + ((ones4 s : Nat) : Int) / 65536) = ((ones5 s : Nat) : Int) := by decide +kernel
def ones6 (s : Nat) : Nat := ((((ones5 s : Nat) : Int) + ((ones5 s : Nat) : Int) / 4294967296)).toNat
theorem ones6_eq : ∀ s : Nat, s < 256 → (((ones5 s : Nat) : Int) + ((ones5 s : Nat) : Int) / 4294967296) = ((ones6 s : Nat) : Int) := by decide +kernel
theorem ones7_eq : ∀ s : Nat, s < 256 → ones6 s < 100000 ∧ bits BinOp.and IntKind.i64 ((ones6 s : Nat) : Int) 127 = ((cntF (bit s) 8 : Nat) : Int) := by decide +kernel
theorem ones_bd : ∀ s : Nat, s < 256 → ones1 s < 100000 ∧ ones2 s < 100000 ∧ ones3 s < 100000 ∧ ones4 s < 100000 ∧ ones5 s < 100000 := by decide +kernel

set_option maxRecDepth 100000 in
set_option maxHeartbeats 1000000 in
theorem ones64_any (s : Nat) (hs : s < 256) (w : World) :
    Calls Try.prog 44 #[.int .u64 (s : Int)] w fun e w' => e = .returned (.int .i64 (cntF (bit s) 8 : Nat)) ∧ w = w' := by
  have e1 := ones1_eq s hs
  have e2 := ones2_eq s hs
  have e3 := ones3_eq s hs
  have e4 := ones4_eq s hs
  have e5 := ones5_eq s hs
  have e6 := ones6_eq s hs
  obtain ⟨b6, e7⟩ := ones7_eq s hs
  obtain ⟨b1, b2, b3, b4, b5⟩ := ones_bd s hs
  go_enter Try.func44, Try.ntmps44
  go_upto_region 2 with fail
  try rw [e1]
  go_upto_region 3 with fail
  try rw [e2]
  go_upto_region 4 with fail
  try rw [e3]
  go_upto_region 5 with fail
  try rw [e4]
  go_upto_region 6 with fail
  try rw [e5]
  go_upto_region 7 with fail
  try rw [e6]
  go_wp2
  go_ret
  exact ⟨by first | rfl | (rw [e7]), rfl⟩
theorem ones_any (s : Nat) (hs : s < 256) (w : World) :
    Calls Try.prog 37 #[.int .u64 (s : Int)] w fun e w' => e = .returned (.int .i64 (cntF (bit s) 8 : Nat)) ∧ w = w' := by
  have H := Lib.hid (fun w => ones64_any s hs w)
  go_enter Try.func37, Try.ntmps37
  go_wp2_with fail
  refine (H.out _).mono ?_
  rintro e w' ⟨rfl, rfl⟩
  go_wp2
  go_ret
  exact ⟨rfl, rfl⟩
theorem cnt8 {s m : Nat} (hs : s < 2 ^ m) (hm : m ≤ 8) : cntF (bit s) 8 = cntF (bit s) m := by
  have key : ∀ k, cntF (bit s) (m + k) = cntF (bit s) m := by
    intro k
    induction k with
    | zero => rfl
    | succ k ih =>
      show cntF (bit s) (m + k) + (if bit s (m + k) = true then 1 else 0) = _
      have : bit s (m + k) = false := Nat.testBit_lt_two_pow (Nat.lt_of_lt_of_le hs (Nat.pow_le_pow_right (by omega) (by omega)))
      rw [ih, this]; simp
  have := key (8 - m)
  rwa [show m + (8 - m) = 8 by omega] at this
end Go.Proofs.Ytjolkdckhmmenaa
