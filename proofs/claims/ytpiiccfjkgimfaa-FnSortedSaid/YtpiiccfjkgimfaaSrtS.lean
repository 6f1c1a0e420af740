/- slices.SortStableFunc's own functions at devices: exchanging two ranges. -/
import Derived.Test.YtpiiccfjkgimfaaSrtR
import Derived.Deep.DeepCutAuto
import Derived.Deep.RegionLaw
namespace Go.Proofs.Ytpiiccfjkgimfaa
open Go.RowKit
open Go.Sort (swp PermIn SortedIn SWO size_swp swp_get swp_other swp_left swp_right)
set_option linter.unusedVariables false
set_option linter.unusedSimpArgs false

set_option maxRecDepth 100000 in
set_option maxHeartbeats 4000000 in
theorem swapRange_any (g cap a b n : Nat) (cmpv : Value) (d : Array (Dv × Nat)) (w : World) (h : DRow w g d) (hab : a + n ≤ b) (hbn : b + n ≤ d.size) (hsz : d.size ≤ 1000) (hcap : d.size ≤ cap) :
    Calls Try.prog 158 #[.slice (some ⟨g, 0, none⟩) d.size cap, .int .i64 a, .int .i64 b, .int .i64 n, cmpv] w fun e w' =>
      e = .returned (.tuple #[]) ∧ ∃ d', DRow w' g d' ∧ Fol (swI a b n) d d' ∧ PermIn a (b + n) d d' ∧ Within g (g + 1) w w' := by
  obtain ⟨cs0, hB0, hR0⟩ := h
  have HR0 := Lib.hid hR0
  have HF0 := Lib.hid (Fol.id d (f := swI a b 0) (fun k => swI_zero a b k (by omega)))
  have HP0 := Lib.hid (PermIn.refl' a (b + n) d)
  clear hR0
  go_enter Try.func158, Try.ntmps158
  go_wp2
  go_loopw [10] (fun i wr => ∃ (k : Nat) (dk : Array (Dv × Nat)), k ≤ n ∧ i = .int .i64 k ∧ Hid (dk.size = d.size) ∧ (∃ cs : Array Value, Blk wr g cs 55 ∧ Hid (RowC wr g dk cs)) ∧ Hid (Fol (swI a b k) d dk) ∧ Hid (PermIn a (b + n) d dk) ∧ Within g (g + 1) w wr) (fun i _ => n - (intOf i).toNat)
  case atStart => exact ⟨0, d, Nat.zero_le _, rfl, Lib.hid rfl, ⟨cs0, hB0, HR0⟩, HF0, HP0, Within.refl _ _ _⟩
  case round =>
    clear HR0 HF0 HP0 hB0
    obtain ⟨k, dk, hk, rfl, HS, ⟨cs, hB, HR⟩, HF, HP, hW⟩ := hrel
    by_cases hlt : k < n
    · obtain ⟨⟨pi, hci, hoi⟩, _⟩ := HR.out (a + k) (by rw [HS.out]; omega)
      obtain ⟨⟨pj, hcj, hoj⟩, _⟩ := HR.out (b + k) (by rw [HS.out]; omega)
      have HRS := Lib.hid (HR.out.swp (i := a + k) (j := b + k) (by rw [HS.out]; omega) (by rw [HS.out]; omega) (by omega) hci hoi hcj hoj)
      have HFS := Lib.hid (HF.out.swp (i := a + k) (j := b + k) (by omega) (by omega) (fun q => swI_step (a := a) (b := b) (n := k) (k := q) (by omega)))
      have HPS := Lib.hid (PermIn.swp HP.out (i := a + k) (j := b + k) (by omega) (by omega) (by omega) (by omega) hbn)
      have HSS := Lib.hid (show (swp dk (a + k) (b + k)).size = d.size by rw [size_swp]; exact HS.out)
      obtain ⟨a1, c1, rfl⟩ := hoi.sl.len
      obtain ⟨a2, c2, rfl⟩ := hoj.sl.len
      generalize swp dk (a + k) (b + k) = ds at HRS HFS HPS HSS
      generalize dk[a + k]! = xi at *
      generalize dk[b + k]! = xj at *
      obtain ⟨⟨ki, psi, wi, li⟩, fi⟩ := xi
      obtain ⟨⟨kj, psj, wj, lj⟩, fj⟩ := xj
      dsimp only at *
      obtain ⟨ni, hni⟩ : ∃ ni, psi.length = ni := ⟨_, rfl⟩
      obtain ⟨nj, hnj⟩ : ∃ nj, psj.length = nj := ⟨_, rfl⟩
      rw [hni] at hci HRS
      rw [hnj] at hcj HRS
      obtain ⟨p0, p1, p2, p3⟩ := hci
      obtain ⟨q0, q1, q2, q3⟩ := hcj
      have hBc := hB.cell
      have hBf := hB.free
      have hBl := hB.lt
      have i0 : (0 : Int) ≤ (a : Int) + (k : Int) := by omega
      have i1 : (a : Int) + (k : Int) < (d.size : Int) := by omega
      have j0 : (0 : Int) ≤ (b : Int) + (k : Int) := by omega
      have j1 : (b : Int) + (k : Int) < (d.size : Int) := by omega
      have hwi : IntKind.i64.wrap ((a : Int) + (k : Int)) = (a : Int) + (k : Int) := by rw [IntKind.wrap_i64]; omega
      have hwj : IntKind.i64.wrap ((b : Int) + (k : Int)) = (b : Int) + (k : Int) := by rw [IntKind.wrap_i64]; omega
      have ei : ((a : Int) + (k : Int)).toNat = a + k := by omega
      have ej : ((b : Int) + (k : Int)).toNat = b + k := by omega
      clear hni hnj hoi hoj
      go_wp2_with fail
      go_region
      all_goals go_wp2_with fail
      obtain ⟨W8, hW8, hB8, hWW⟩ := swap_cells hB (a + k) (b + k) (.int .i64 kj) (.slice a2 nj c2) (.int .i64 wj) (.int .i64 lj) (.int .i64 ki) (.slice a1 ni c1) (.int .i64 wi) (.int .i64 li)
      rw [← hW8]
      exact ⟨⟨k + 1, ds, by omega, by go_num, HSS, ⟨_, hB8, Lib.hid (HRS.out.past hWW)⟩, HFS, HPS, hW.on hWW⟩, by simp [intOf]; omega⟩
    · obtain rfl : k = n := by omega
      go_wp2
      go_end0
      exact ⟨by rfl, dk, ⟨cs, hB, HR.out⟩, HF.out, HP.out, hW⟩

/-- What is still to be done of a rotation. -/
def RotLeft (a m b i j : Nat) (d dk : Array (Dv × Nat)) : Prop := ∀ k, k < d.size → dk[rotI (m - i) m (m + j) k]! = d[rotI a m b k]!
theorem RotLeft.big {a m b i j : Nat} {d dk de : Array (Dv × Nat)} (h : RotLeft a m b i j d dk) (hs : dk.size = d.size) (hj : j < i) (hi : i ≤ m) (hb : m + j ≤ d.size) (hf : Fol (swI (m - i) m j) dk de) : RotLeft a m b (i - j) j d de := by
  intro k hk
  rw [← h k hk, rotI_big hj hi, show m - (i - j) = m - i + j by omega]
  exact hf.2 _ (by rw [hs]; exact rotI_lt (by omega) (by omega) hb hk)
theorem RotLeft.small {a m b i j : Nat} {d dk de : Array (Dv × Nat)} (h : RotLeft a m b i j d dk) (hs : dk.size = d.size) (hj : i < j) (hi : i ≤ m) (hb : m + j ≤ d.size) (hf : Fol (swI (m - i) (m + j - i) i) dk de) : RotLeft a m b i (j - i) d de := by
  intro k hk
  rw [← h k hk, rotI_small hj hi, show m + (j - i) = m + j - i by omega]
  exact hf.2 _ (by rw [hs]; exact rotI_lt (by omega) (by omega) (by omega) hk)
theorem RotLeft.done {a m b i : Nat} {d dk de : Array (Dv × Nat)} (h : RotLeft a m b i i d dk) (hs : dk.size = d.size) (hi : i ≤ m) (hb : m + i ≤ d.size) (hf : Fol (swI (m - i) m i) dk de) : Fol (rotI a m b) d de := by
  refine ⟨hf.1.trans hs, fun k hk => ?_⟩
  rw [← h k hk, rotI_eq hi]
  exact hf.2 _ (by rw [hs]; exact hk)

set_option maxRecDepth 100000 in
set_option maxHeartbeats 4000000 in
theorem rotate_any (g cap a m b : Nat) (cmpv : Value) (d : Array (Dv × Nat)) (w : World) (h : DRow w g d) (ham : a < m) (hmb : m < b) (hbd : b ≤ d.size) (hsz : d.size ≤ 1000) (hcap : d.size ≤ cap) :
    Calls Try.prog 146 #[.slice (some ⟨g, 0, none⟩) d.size cap, .int .i64 a, .int .i64 m, .int .i64 b, cmpv] w fun e w' =>
      e = .returned (.tuple #[]) ∧ ∃ d', DRow w' g d' ∧ Fol (rotI a m b) d d' ∧ PermIn a b d d' ∧ Within g (g + 1) w w' := by
  have HR0 := Lib.hid h
  have HP0 := Lib.hid (PermIn.refl' a b d)
  have HL0 := Lib.hid (show RotLeft a m b (m - a) (b - m) d d from fun k hk => by rw [show m - (m - a) = a by omega, show m + (b - m) = b by omega])
  clear h
  have w1 : IntKind.i64.wrap ((m : Int) - (a : Int)) = ((m - a : Nat) : Int) := by rw [IntKind.wrap_i64]; omega
  have w2 : IntKind.i64.wrap ((b : Int) - (m : Int)) = ((b - m : Nat) : Int) := by rw [IntKind.wrap_i64]; omega
  go_enter Try.func146, Try.ntmps146
  go_wp2
  go_loopw [10, 11] (fun vi vj wr => ∃ (i j : Nat) (dk : Array (Dv × Nat)), (1 ≤ i ∧ i ≤ m - a) ∧ (1 ≤ j ∧ j ≤ b - m) ∧ vi = .int .i64 i ∧ vj = .int .i64 j ∧ Hid (dk.size = d.size) ∧ Hid (DRow wr g dk) ∧ Hid (RotLeft a m b i j d dk) ∧ Hid (PermIn a b d dk) ∧ Within g (g + 1) w wr) (fun vi vj _ => (intOf vi).toNat + (intOf vj).toNat)
  case atStart => exact ⟨m - a, b - m, d, by omega, by omega, rfl, rfl, Lib.hid rfl, HR0, HL0, HP0, Within.refl _ _ _⟩
  case round =>
    clear HR0 HL0 HP0 w1 w2
    obtain ⟨i, j, dk, ⟨hi1, hi2⟩, ⟨hj1, hj2⟩, rfl, rfl, HS, HR, HL, HP, hW⟩ := hrel
    have ei : ((m : Int) - (i : Int)) = ((m - i : Nat) : Int) := by omega
    have wi : IntKind.i64.wrap ((m : Int) - (i : Int)) = ((m - i : Nat) : Int) := by rw [IntKind.wrap_i64]; omega
    by_cases heq : i = j
    · subst heq
      have HC := Lib.hid (swapRange_any g cap (m - i) m i cmpv dk wr HR.out (by omega) (by rw [HS.out]; omega) (by rw [HS.out]; exact hsz) (by rw [HS.out]; exact hcap))
      rw [HS.out] at HC
      go_wp2_with (go_at_call 158; refine HC.out.mono ?_; rintro e w1 ⟨rfl, de, hR, hF, hQ, hW1⟩)
      go_end0
      exact ⟨by rfl, de, hR, HL.out.done HS.out (by omega) (by omega) hF, PermIn.on HP.out (PermIn.wide hQ (by omega) (by omega) (by rw [HS.out]; omega)), hW.on hW1⟩
    · have q1 : ((i : Int) == (j : Int)) = false := by simp; omega
      have q2 : ((i : Int) != (j : Int)) = true := by simp; omega
      by_cases hlt : j < i
      · have HC := Lib.hid (swapRange_any g cap (m - i) m j cmpv dk wr HR.out (by omega) (by rw [HS.out]; omega) (by rw [HS.out]; exact hsz) (by rw [HS.out]; exact hcap))
        rw [HS.out] at HC
        have wj : IntKind.i64.wrap ((i : Int) - (j : Int)) = ((i - j : Nat) : Int) := by rw [IntKind.wrap_i64]; omega
        have q3 : (j : Int) < (i : Int) := by omega
        go_wp2_with (go_at_call 158; refine HC.out.mono ?_; rintro e w1 ⟨rfl, de, hR, hF, hQ, hW1⟩)
        exact ⟨⟨i - j, j, de, by omega, by omega, rfl, rfl, Lib.hid (hF.1.trans HS.out), Lib.hid hR, Lib.hid (HL.out.big HS.out hlt (by omega) (by omega) hF), Lib.hid (PermIn.on HP.out (PermIn.wide hQ (by omega) (by omega) (by rw [HS.out]; omega))), hW.on hW1⟩, by simp [intOf]; omega⟩
      · have HC := Lib.hid (swapRange_any g cap (m - i) (m + j - i) i cmpv dk wr HR.out (by omega) (by rw [HS.out]; omega) (by rw [HS.out]; exact hsz) (by rw [HS.out]; exact hcap))
        rw [HS.out] at HC
        have wj : IntKind.i64.wrap ((j : Int) - (i : Int)) = ((j - i : Nat) : Int) := by rw [IntKind.wrap_i64]; omega
        have wk : IntKind.i64.wrap ((m : Int) + (j : Int)) = (m : Int) + (j : Int) := by rw [IntKind.wrap_i64]; omega
        have wl : IntKind.i64.wrap ((m : Int) + (j : Int) - (i : Int)) = ((m + j - i : Nat) : Int) := by rw [IntKind.wrap_i64]; omega
        have q3 : ¬ (j : Int) < (i : Int) := by omega
        go_wp2_with (go_at_call 158; refine HC.out.mono ?_; rintro e w1 ⟨rfl, de, hR, hF, hQ, hW1⟩)
        exact ⟨⟨i, j - i, de, by omega, by omega, rfl, rfl, Lib.hid (hF.1.trans HS.out), Lib.hid hR, Lib.hid (HL.out.small HS.out (by omega) (by omega) (by omega) hF), Lib.hid (PermIn.on HP.out (PermIn.wide hQ (by omega) (by omega) (by rw [HS.out]; omega))), hW.on hW1⟩, by simp [intOf]; omega⟩
end Go.Proofs.Ytpiiccfjkgimfaa
