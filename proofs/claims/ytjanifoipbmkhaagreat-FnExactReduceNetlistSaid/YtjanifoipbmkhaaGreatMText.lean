/- markText: what it answers hangs on the number alone. -/
import Derived.Test.YtjanifoipbmkhaaGreatBase
import Derived.Laws.BytesArg
import Derived.WalkLawsBesides
namespace Go.Proofs.YtjanifoipbmkhaaGreat
open Go.RowKit
set_option linter.unusedVariables false
set_option linter.unusedSimpArgs false

/-- The digits of k ahead of a text. -/
def dgF : Nat → Nat → ByteArray → ByteArray
  | 0, _, s => s
  | f + 1, k, s => if k = 0 then s else dgF f (k / 10) (strOfNums [((48 + k % 10 : Nat) : Int)] ++ s)
def mtxt (k : Nat) : ByteArray := ⟨#[109]⟩ ++ dgF k k ⟨#[]⟩
theorem size_one (v : Int) : (strOfNums [v]).size = 1 := by simp [strOfNums, ByteArray.size]
theorem dgF_end (f : Nat) (s : ByteArray) : dgF f 0 s = s := by cases f <;> simp [dgF]
theorem dgF_step (f k : Nat) (s : ByteArray) (h : 0 < k) (hf : k ≤ f) : ∃ f', k / 10 ≤ f' ∧ dgF f k s = dgF f' (k / 10) (strOfNums [((48 + k % 10 : Nat) : Int)] ++ s) := by
  cases f with
  | zero => omega
  | succ f =>
    refine ⟨f, by omega, ?_⟩
    have : ¬ k = 0 := by omega
    simp [dgF, this]

set_option maxRecDepth 100000 in
set_option maxHeartbeats 1000000 in
theorem markText_any (k : Nat) (w : World) (hk : 0 < k) (hk' : k ≤ 1000000000000) :
    Calls Tryz.prog 77 #[.int .i64 (k : Int)] w fun e w' => e = .returned (.string (mtxt k)) ∧ Below w.heap.size w w' := by
  have hcv : ∀ (W : World) (v : Int), (convert 114 9 (.slice (some ⟨W.heap.size, 0, none⟩) 1 1)).run Tryz.prog (W.alloc (.cells #[.int .u8 v] 5)) = .ok (.string (strOfNums [v])) (W.alloc (.cells #[.int .u8 v] 5)) := by
    intro W v
    have hcell : ∀ i, i < 1 → (W.alloc (.cells #[.int .u8 v] 5)).cell? ⟨W.heap.size, 0 + i, none⟩ = some (.int .u8 ([v].getD i 0)) := by
      intro i hi
      obtain rfl : i = 0 := by omega
      rw [(Blk.new W.heap.size rfl).cell]; rfl
    exact run_convert_bytes_arg _ 114 5 Tryz.underlying114 Tryz.underlying5 W.heap.size 0 1 1 [v] rfl hcell 9 Tryz.underlying9
  have HM := Lib.hid (show mtxt k = ⟨#[109]⟩ ++ dgF k k ⟨#[]⟩ from rfl)
  obtain ⟨R, hR⟩ : ∃ R, dgF k k ⟨#[]⟩ = R := ⟨_, rfl⟩
  have HR := Lib.hid hR
  rw [hR] at HM
  clear hR
  generalize mtxt k = mt at *
  have hk0 : decide (k = 0) = false := by rw [decide_eq_false_iff_not]; omega
  go_enter Tryz.func77, Tryz.ntmps77
  go_wp2
  go_loopw [0, 3] (fun a s wr => ∃ (j f : Nat) (t : ByteArray), a = .int .i64 (j : Int) ∧ j ≤ k ∧ s = .string t ∧ t.size + j ≤ k ∧ Hid (j ≤ f ∧ dgF f j t = R) ∧ Below w.heap.size w wr) (fun a _ _ => (intOf a).toNat)
  case atStart => exact ⟨k, k, ⟨#[]⟩, rfl, Nat.le_refl _, rfl, by simp [ByteArray.size], Lib.hid ⟨Nat.le_refl _, HR.out⟩, (by ((repeat (first | (with_reducible exact Below.refl _ _) | (with_reducible refine below_drewN ?_ _) | (with_reducible refine Below.drew ?_) | (with_reducible refine below_al ?_ _) | (with_reducible refine below_on (by assumption) ?_) | ((with_reducible refine Below.setCell ?_ ?_ _); rotate_left; focus (first | omega | (simp; done) | (simp; omega))) | (with_reducible assumption))); done))⟩
  case round =>
    obtain ⟨j, f, t, rfl, hjk, rfl, hts, HI, hb⟩ := hrel
    by_cases hj : 0 < j
    · have h1 : (0 : Int) ≤ (j : Int) % 10 := by omega
      have h2 : (j : Int) % 10 < 10 := by omega
      have hw : IntKind.u8.wrap (48 + (j : Int) % 10) = 48 + (j : Int) % 10 := by simp [IntKind.wrap, IntKind.bits, IntKind.signed]; omega
      have hs1 : (strOfNums [48 + (j : Int) % 10]).size + t.size ≤ 9223372036854775807 := by rw [size_one]; omega
      have hs2 : ¬ 9223372036854775807 < (strOfNums [48 + (j : Int) % 10]).size + t.size := by omega
      go_wp2
      obtain ⟨f', hf', he⟩ := dgF_step f j t hj HI.out.1
      refine ⟨⟨j / 10, f', strOfNums [48 + (j : Int) % 10] ++ t, by simp, by omega, rfl, by rw [ByteArray.size_append, size_one]; omega, Lib.hid ⟨hf', ?_⟩, (by ((repeat (first | (with_reducible exact Below.refl _ _) | (with_reducible refine below_drewN ?_ _) | (with_reducible refine Below.drew ?_) | (with_reducible refine below_al ?_ _) | (with_reducible refine below_on (by assumption) ?_) | ((with_reducible refine Below.setCell ?_ ?_ _); rotate_left; focus (first | omega | (simp; done) | (simp; omega))) | (with_reducible assumption))); done))⟩, by simp [intOf]; omega⟩
      have := HI.out.2
      rw [he] at this
      rw [← this]
      congr 3
    · obtain rfl : j = 0 := by omega
      have hs2 : ¬ 9223372036854775807 < 1 + t.size := by omega
      go_wp2
      go_ret
      exact ⟨by rw [HM.out, ← HI.out.2, dgF_end]; rfl, hb⟩
end Go.Proofs.YtjanifoipbmkhaaGreat
