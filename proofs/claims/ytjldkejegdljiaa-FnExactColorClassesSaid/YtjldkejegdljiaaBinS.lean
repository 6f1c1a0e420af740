/- slices.BinarySearch at int64, for an ascending list that holds what is looked for. -/
import Derived.Test.YtjldkejegdljiaaIntB
import Derived.BigRegion
import Derived.Deep.DeepCutAuto
namespace Go.Proofs.Ytjldkejegdljiaa
open Go.RowKit
set_option linter.unusedVariables false
set_option linter.unusedSimpArgs false

theorem shr_one (z : Int) (h : 0 ≤ z) (h' : z ≤ 9223372036854775807) : IntKind.u64.wrap z = z ∧ z / 2 ≤ z := by
  constructor
  · simp [IntKind.wrap, IntKind.bits, IntKind.signed]; omega
  · omega

set_option maxRecDepth 100000 in
set_option maxHeartbeats 2000000 in
theorem binSearch_any (sv : Value) (As : List Int) (x : Int) (r : Nat) (w : World) (h : IntSl w sv As) (hs : As.Pairwise (fun a b => a < b)) (hr : As[r]? = some x) (hl : As.length ≤ 1000000) :
    Calls Try.prog 60 #[sv, .int .i64 x] w fun e w' => e = .returned (.tuple #[.int .i64 (r : Int), .bool true]) ∧ w = w' := by
  have hrl : r < As.length := (List.getElem?_eq_some_iff.1 hr).1
  rcases h with ⟨_, _, _, e2⟩ | ⟨b, off, cap, rfl, h2, h3, h4⟩
  · rw [e2] at hrl; simp at hrl
  have h3' := h3
  have HC := Lib.hid h4
  have hlt1 : ∀ (m : Nat) y, As[m]? = some y → (y < x ↔ m < r) := fun m y hm => by
    obtain ⟨hm', em⟩ := List.getElem?_eq_some_iff.1 hm
    obtain ⟨hr', er⟩ := List.getElem?_eq_some_iff.1 hr
    rw [List.pairwise_iff_getElem] at hs
    rcases Nat.lt_trichotomy m r with c | c | c
    · have := hs m r hm' hr' c
      rw [em, er] at this
      exact ⟨fun _ => c, fun _ => this⟩
    · subst c
      rw [em] at er
      subst er
      exact ⟨fun h => by omega, fun h => by omega⟩
    · have := hs r m hr' hm' c
      rw [em, er] at this
      exact ⟨fun h => by omega, fun h => by omega⟩
  have HLT := Lib.hid hlt1
  have HR := Lib.hid hr
  unfold maxLen at h3
  clear h4 hs hlt1 hr
  go_enter Try.func60, Try.ntmps60
  go_wp2
  go_loopw [7, 8] (fun i j wr => ∃ (p q : Nat), p ≤ r ∧ r ≤ q ∧ q ≤ As.length ∧ i = .int .i64 (p : Int) ∧ j = .int .i64 (q : Int) ∧ w = wr) (fun i j _ => (intOf j - intOf i).toNat)
  case atStart => exact ⟨0, As.length, Nat.zero_le _, by omega, Nat.le_refl _, rfl, rfl, by first | trivial | rfl⟩
  case round =>
    obtain ⟨p, q, hp, hq, hql, rfl, rfl, rfl⟩ := hrel
    by_cases hpq : p < q
    · obtain ⟨m, hm⟩ : ∃ m, (p + q) / 2 = m := ⟨_, rfl⟩
      have hm1 : p ≤ m ∧ m < q := by omega
      obtain ⟨y, hy⟩ : ∃ y, As[m]? = some y := ⟨As[m]'(by omega), List.getElem?_eq_getElem _⟩
      have hc := HC.out m y hy
      have hiff := HLT.out m y hy
      have i0 : (p : Int) < (q : Int) := by omega
      have i1 : (0 : Int) ≤ (m : Int) := by omega
      have i2 : (m : Int) < (As.length : Int) := by omega
      have e1 : IntKind.i64.wrap ((p : Int) + (q : Int)) = (p : Int) + (q : Int) := by simp [IntKind.wrap, IntKind.bits, IntKind.signed]; omega
      have e2 : IntKind.u64.wrap ((p : Int) + (q : Int)) = (p : Int) + (q : Int) := by simp [IntKind.wrap, IntKind.bits, IntKind.signed]; omega
      clear hy
      go_upto_region 5 with fail
      rw [show ((p : Int) + (q : Int)) / 2 = (m : Int) by omega]
      by_cases hyx : y < x
      · have hmr := hiff.1 hyx
        clear hm
        go_wp2
        exact ⟨⟨m + 1, q, by omega, by omega, hql, by go_num, rfl, by first | trivial | rfl⟩, by simp [intOf]; omega⟩
      · have hmr : r ≤ m := by
          rcases Nat.lt_or_ge m r with c | c
          · exact absurd (hiff.2 c) hyx
          · exact c
        clear hm
        go_wp2
        exact ⟨⟨p, m, hp, hmr, by omega, rfl, by go_num, by first | trivial | rfl⟩, by simp [intOf]; omega⟩
    · obtain rfl : p = r := by omega
      obtain rfl : q = p := by omega
      have hc := HC.out q x HR.out
      have i1 : (0 : Int) ≤ (q : Int) := by omega
      have i2 : (q : Int) < (As.length : Int) := by omega
      have i3 : ¬ (q : Int) < (q : Int) := by omega
      go_wp2
      exact bodyPost_ret (v := .tuple #[.int .i64 (q : Int), .bool true]) (by simp [results, Try.results60, go_sem, *]) rfl ⟨rfl, by first | trivial | rfl⟩
end Go.Proofs.Ytjldkejegdljiaa
