/- The source of numbers at a bound over 256. -/
import Derived.Test.YtglddnkpccgchaaDoorSrc
namespace Go.Proofs.YtglddnkpccgchaaDoor
open Go.RowKit
set_option linter.unusedVariables false
set_option linter.unusedSimpArgs false

set_option maxRecDepth 100000 in
set_option maxHeartbeats 2000000 in
theorem l01Next_big (W0 : World) (g : Nat) (sv : Value) (n : Nat) (m : Int) (w : World) (hD : Src1 W0 g sv n w) (hm' : 256 < m) :
    Calls Tryd.prog 52 #[.pointer (some ⟨g, 0, none⟩), .int .i64 m] w fun e w' => ∃ v : Int, e = .returned (.int .i64 v) ∧ 0 ≤ v ∧ (v < m ∨ v = 0) ∧ Src1 W0 g sv n w' ∧ Only g w w' := by
  have HD := Lib.hid hD
  obtain ⟨hg, hb, hB, hn, i, x, hi, hi', ⟨hx0, hx1⟩, hx⟩ := hD
  have hxc := hx.cell
  have hxf := hx.free
  have hm1 : ¬ m ≤ 1 := by omega
  have hmp : 0 < m := by omega
  have hm0 : m ≠ 0 := by omega
  by_cases hlt : i < n
  · rcases hB with ⟨a0, c0, rfl, rfl⟩ | ⟨b, off, cap, rfl, h2, h3, h4⟩
    · omega
    have h3' := h3
    unfold maxLen at h3
    obtain ⟨y, hy, hy0, hy1⟩ := h4 i.toNat (by omega)
    obtain ⟨j, rfl⟩ := Int.eq_ofNat_of_zero_le hi
    rw [Int.toNat_natCast] at hy
    have hyc := cell_by' hb hy
    have H4 := Lib.hid h4
    clear h4 hy
    have e3 : IntKind.i64.wrap (x * 48271) = x * 48271 := by simp [IntKind.wrap, IntKind.bits, IntKind.signed]; omega
    have e4 : IntKind.i64.wrap (x * 48271 + y) = x * 48271 + y := by simp [IntKind.wrap, IntKind.bits, IntKind.signed]; omega
    have e5 : IntKind.i64.wrap (x * 48271 + y + 1) = x * 48271 + y + 1 := by simp [IntKind.wrap, IntKind.bits, IntKind.signed]; omega
    have e6 : (x * 48271 + y + 1).tmod 2147483647 = (x * 48271 + y + 1) % 2147483647 := Int.tmod_eq_emod_of_nonneg (by omega)
    obtain ⟨z, hz⟩ : ∃ z, (x * 48271 + y + 1) % 2147483647 = z := ⟨_, rfl⟩
    have hzb : 0 ≤ z ∧ z ≤ 2147483646 := by omega
    go_enter Tryd.func52, Tryd.ntmps52
    go_wp2_with fail
    go_quiet (fail)
    go_wp2_with fail
    go_quiet (fail)
    go_wp2
    go_ret
    refine ⟨z % m, rfl, (emod_bd z m hmp).1, .inl (emod_bd z m hmp).2, ?_, ?_⟩
    · refine ⟨hg, Only.below ?_ hb hg, .inr ⟨b, off, cap, rfl, h2, h3', H4.out⟩, hn, (j : Int) + 1, z, by omega, by omega, hzb, ?_⟩
      · repeat (first | exact Only.refl _ _ | refine Only.drewN ?_ _ | refine Only.set ?_ _ _)
      · exact ((hx.drewN _).set 1 _).set 2 _
    · repeat (first | exact Only.refl _ _ | refine Only.drewN ?_ _ | refine Only.set ?_ _ _)
  · obtain rfl : i = (n : Int) := by omega
    obtain ⟨a0, c0, rfl⟩ : ∃ a c, sv = .slice a n c := by
      rcases hB with ⟨a0, c0, e1, e2⟩ | ⟨b, off, cap, e1, _⟩
      · exact ⟨a0, c0, by rw [e2]; exact e1⟩
      · exact ⟨_, _, e1⟩
    have HB := Lib.hid hB
    clear hB
    have e3 : IntKind.i64.wrap (x * 48271) = x * 48271 := by simp [IntKind.wrap, IntKind.bits, IntKind.signed]; omega
    have e4 : IntKind.i64.wrap (x * 48271 + 11) = x * 48271 + 11 := by simp [IntKind.wrap, IntKind.bits, IntKind.signed]; omega
    have e5 : (x * 48271 + 11).tmod 2147483647 = (x * 48271 + 11) % 2147483647 := Int.tmod_eq_emod_of_nonneg (by omega)
    obtain ⟨z, hz⟩ : ∃ z, (x * 48271 + 11) % 2147483647 = z := ⟨_, rfl⟩
    have hzb : 0 ≤ z ∧ z ≤ 2147483646 := by omega
    go_enter Tryd.func52, Tryd.ntmps52
    go_wp2_with fail
    go_quiet (fail)
    go_wp2
    go_ret
    refine ⟨z / 7 % m, rfl, (emod_bd _ m hmp).1, .inl (emod_bd _ m hmp).2, ?_, ?_⟩
    · refine ⟨hg, Only.below ?_ hb hg, HB.out, hn, (n : Int), z, by omega, by omega, hzb, ?_⟩
      · repeat (first | exact Only.refl _ _ | refine Only.drewN ?_ _ | refine Only.set ?_ _ _)
      · exact (hx.drewN _).set 2 _
    · repeat (first | exact Only.refl _ _ | refine Only.drewN ?_ _ | refine Only.set ?_ _ _)
theorem l01Next_all (W0 : World) (g : Nat) (sv : Value) (n : Nat) (m : Int) (w : World) (hD : Src1 W0 g sv n w) :
    Calls Tryd.prog 52 #[.pointer (some ⟨g, 0, none⟩), .int .i64 m] w fun e w' => ∃ v : Int, e = .returned (.int .i64 v) ∧ 0 ≤ v ∧ (v < m ∨ v = 0) ∧ Src1 W0 g sv n w' ∧ Only g w w' := by
  by_cases h : m ≤ 256
  · exact l01Next_any W0 g sv n m w hD h
  · exact l01Next_big W0 g sv n m w hD (by omega)
end Go.Proofs.YtglddnkpccgchaaDoor
