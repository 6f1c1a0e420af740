/- Plain arithmetic for the proofs of this seat: the loop of the greatest common divisor. -/
import Derived.WalkKit
import Derived.Test.YtglddnkpccgchaaDoorRows
import Derived.Test.YtglddnkpccgchaaDoorBase
import Derived.Deep.QuietTactic
import Derived.BigQuiet
import Derived.Lib.Hide
import Derived.Test.YtglddnkpccgchaaDoorDevs
import Derived.Test.YtglddnkpccgchaaDoorNls
import Derived.BigRegion
namespace Go.Proofs.YtglddnkpccgchaaDoor
open Go.RowKit

/-- One step of Euclid's loop over Int. -/
theorem gcd_tstep (a b : Int) : Int.gcd b (a.tmod b) = Int.gcd a b := by
  unfold Int.gcd
  rw [Int.natAbs_tmod, Nat.gcd_comm a.natAbs b.natAbs, Nat.gcd_rec b.natAbs a.natAbs, Nat.gcd_comm]
theorem gcd_step (a b : Int) (ha : 0 ≤ a) : Int.gcd b (a % b) = Int.gcd a b := by
  rw [← Int.tmod_eq_emod_of_nonneg ha]; exact gcd_tstep a b

/-- The interval test. -/
def inB (x a b : Int) : Bool := decide (a ≤ x ∧ x ≤ b)
theorem inB_iff {x a b : Int} : inB x a b = true ↔ a ≤ x ∧ x ≤ b := by simp [inB]
theorem inB_not {x a b : Int} : inB x a b = false ↔ ¬ (a ≤ x ∧ x ≤ b) := by simp [inB]

/-- The numerator and the denominator of n / d in lowest terms. -/
def redN (n d : Int) : Int := (if d < 0 then -n else n).tdiv (Int.gcd n d : Nat)
def redD (n d : Int) : Int := (if d < 0 then -d else d).tdiv (Int.gcd n d : Nat)

theorem redN_lt (n : Int) {d : Int} (h : d < 0) : redN n d = -n.tdiv (Int.gcd n d : Nat) := by unfold redN; rw [if_pos h, Int.neg_tdiv]
theorem redD_lt (n : Int) {d : Int} (h : d < 0) : redD n d = -d.tdiv (Int.gcd n d : Nat) := by unfold redD; rw [if_pos h, Int.neg_tdiv]
theorem redN_ge (n : Int) {d : Int} (h : 0 ≤ d) : redN n d = n.tdiv (Int.gcd n d : Nat) := by unfold redN; rw [if_neg (by omega)]
theorem redD_ge (n : Int) {d : Int} (h : 0 ≤ d) : redD n d = d.tdiv (Int.gcd n d : Nat) := by unfold redD; rw [if_neg (by omega)]
theorem gcd_pos_of (n d : Int) (h : d ≠ 0) : 0 < Int.gcd n d := by
  rcases Nat.eq_zero_or_pos (Int.gcd n d) with h0 | h0
  · exact absurd (Int.gcd_eq_zero_iff.1 h0).2 h
  · exact h0
theorem gcd_le_of (n d : Int) (h : d ≠ 0) : (Int.gcd n d : Int) ≤ d.natAbs := by
  have := Nat.le_of_dvd (by omega) (Int.gcd_dvd_natAbs_right n d)
  omega
theorem abs_max (n : Int) : max n (-n) = (n.natAbs : Int) := by omega
theorem gcd_abs (n d : Int) : Int.gcd (n.natAbs : Int) d = Int.gcd n d := by
  unfold Int.gcd; simp
theorem gcd_nn (n d : Int) : Int.gcd (-n) (-d) = Int.gcd n d := by rw [Int.neg_gcd, Int.gcd_neg]

theorem tdiv_bd (n g : Int) (h : 0 < g) (M : Int) (h1 : -M ≤ n) (h2 : n ≤ M) : -M ≤ n.tdiv g ∧ n.tdiv g ≤ M := by
  rcases Int.le_total 0 n with hn | hn
  · rw [Int.tdiv_eq_ediv_of_nonneg hn]
    have := Int.ediv_nonneg hn (by omega : 0 ≤ g)
    have := Int.ediv_le_self g hn
    omega
  · have e : n = -(-n) := by omega
    rw [e, Int.neg_tdiv, Int.tdiv_eq_ediv_of_nonneg (by omega)]
    have := Int.ediv_nonneg (by omega : 0 ≤ -n) (by omega : 0 ≤ g)
    have := Int.ediv_le_self g (by omega : 0 ≤ -n)
    omega

/-- What MakeRatio comes to: numerator, denominator, code. -/
def mkOk (n d : Int) : Bool := decide (d ≠ 0) && (inB n (-1000000000000000000) 1000000000000000000 && inB d (-1000000000000000000) 1000000000000000000)
def mkN (n d : Int) : Int := if mkOk n d = true then redN n d else 0
def mkD (n d : Int) : Int := if mkOk n d = true then redD n d else 0
def mkC (n d : Int) : Int := if d = 0 then 1 else if mkOk n d = true then 0 else 2
theorem mk_zero (n : Int) : mkN n 0 = 0 ∧ mkD n 0 = 0 ∧ mkC n 0 = 1 := by simp [mkN, mkD, mkC, mkOk]
theorem mk_out {n d : Int} (h : d ≠ 0) (h1 : ¬ (inB n (-1000000000000000000) 1000000000000000000 = true ∧ inB d (-1000000000000000000) 1000000000000000000 = true)) : mkN n d = 0 ∧ mkD n d = 0 ∧ mkC n d = 2 := by
  have e : mkOk n d = false := by
    simp only [mkOk, Bool.and_eq_false_iff]
    rcases Bool.eq_false_or_eq_true (inB n (-1000000000000000000) 1000000000000000000) with a | a <;> rcases Bool.eq_false_or_eq_true (inB d (-1000000000000000000) 1000000000000000000) with b | b <;> simp_all
  simp [mkN, mkD, mkC, e, h]
theorem mk_in {n d : Int} (h : d ≠ 0) (h1 : inB n (-1000000000000000000) 1000000000000000000 = true) (h2 : inB d (-1000000000000000000) 1000000000000000000 = true) : mkN n d = redN n d ∧ mkD n d = redD n d ∧ mkC n d = 0 := by
  have e : mkOk n d = true := by simp [mkOk, h1, h2, h]
  simp [mkN, mkD, mkC, e, h]

/-- A ratio is valid. -/
def vrB (n d : Int) : Bool := decide (0 < d) && decide (Int.gcd n d = 1)
/-- The parts of a ratio are small enough for arithmetic. -/
def fcB (n d : Int) : Bool := inB n (-1000000000) 1000000000 && decide (d ≤ 1000000000)
theorem vrB_pos {n d : Int} (h : vrB n d = true) : 0 < d := by simp [vrB] at h; exact h.1
theorem fcB_bd {n d : Int} (h : fcB n d = true) : -1000000000 ≤ n ∧ n ≤ 1000000000 ∧ d ≤ 1000000000 := by
  simp [fcB] at h; have := inB_iff.1 h.1; omega
theorem vrB_neg (n : Int) {d : Int} (h : d ≤ 0) : vrB n d = false := by simp [vrB]; intro h'; omega
theorem vrB_of (n : Int) {d : Int} (h : 0 < d) : vrB n d = decide (Int.gcd n d = 1) := by simp [vrB, h]

end Go.Proofs.YtglddnkpccgchaaDoor

/- Contracts of the two functions that reckon the greatest common divisor, of the sign's removal, of the two interval tests, and of the validity test of a ratio. -/
namespace Go.Proofs.YtglddnkpccgchaaDoor
open Go.RowKit

set_option maxHeartbeats 400000 in
theorem l26Gcd_any (a b : Int) (w : World) (ha : 0 ≤ a) (ha' : a ≤ 9223372036854775807) (hb : 0 ≤ b) (hb' : b ≤ 9223372036854775807) :
    Calls Tryd.prog 76 #[.int .i64 a, .int .i64 b] w fun e w' => e = .returned (.int .i64 (Int.gcd a b : Nat)) ∧ ∃ n, w' = w.drewN n := by
  go_enter Tryd.func76, Tryd.ntmps76
  go_wp2
  go_loopw [0, 1] (fun x y wr => ∃ p q : Int, ∃ n : Nat, x = .int .i64 p ∧ y = .int .i64 q ∧ 0 ≤ p ∧ p ≤ 9223372036854775807 ∧ 0 ≤ q ∧ q ≤ 9223372036854775807 ∧ Int.gcd p q = Int.gcd a b ∧ wr = w.drewN n) (fun _ y _ => (intOf y).toNat)
  case atStart => exact ⟨a, b, 0, rfl, rfl, ha, ha', hb, hb', rfl, rfl⟩
  case round =>
    obtain ⟨p, q, n, rfl, rfl, hp, hp', hq, hq', hg, rfl⟩ := hrel
    have HG := Lib.hid hg
    clear hg
    by_cases hlt : 0 < q
    · have h1 := Int.emod_nonneg p (show q ≠ 0 by omega)
      have h2 := Int.emod_lt_of_pos p hlt
      go_wp2
      go_quiet (fail)
      go_wp2
      exact ⟨⟨q, p % q, n + nq, rfl, rfl, hq, hq', h1, by omega, by rw [gcd_step p q hp]; exact HG.out, World.drewN_drewN _ _ _⟩, by simp [intOf]; omega⟩
    · have h0 : q = 0 := by omega
      subst h0
      have h3 : (p.gcd 0 : Int) = p := by rw [Int.gcd_zero_right]; omega
      have h4 := HG.out
      go_wp2
      go_ret
      exact ⟨ret_i64 (by rw [← h4]; exact h3.symm), n, rfl⟩

set_option maxHeartbeats 400000 in
theorem divisor_any (a b : Int) (w : World) (ha : 0 ≤ a) (ha' : a ≤ 18446744073709551615) (hb : 0 ≤ b) (hb' : b ≤ 18446744073709551615) :
    Calls Tryd.prog 92 #[.int .u64 a, .int .u64 b] w fun e w' => e = .returned (.int .u64 (Int.gcd a b : Nat)) ∧ ∃ n, w' = w.drewN n := by
  go_enter Tryd.func92, Tryd.ntmps92
  go_wp2
  go_loopw [0, 1] (fun x y wr => ∃ p q : Int, ∃ n : Nat, x = .int .u64 p ∧ y = .int .u64 q ∧ 0 ≤ p ∧ p ≤ 18446744073709551615 ∧ 0 ≤ q ∧ q ≤ 18446744073709551615 ∧ Int.gcd p q = Int.gcd a b ∧ wr = w.drewN n) (fun _ y _ => (intOf y).toNat)
  case atStart => exact ⟨a, b, 0, rfl, rfl, ha, ha', hb, hb', rfl, rfl⟩
  case round =>
    obtain ⟨p, q, n, rfl, rfl, hp, hp', hq, hq', hg, rfl⟩ := hrel
    have HG := Lib.hid hg
    clear hg
    by_cases hlt : 0 < q
    · have h1 := Int.emod_nonneg p (show q ≠ 0 by omega)
      have h2 := Int.emod_lt_of_pos p hlt
      go_wp2
      go_quiet (fail)
      go_wp2
      exact ⟨⟨q, p % q, n + nq, rfl, rfl, hq, hq', h1, by omega, by rw [gcd_step p q hp]; exact HG.out, World.drewN_drewN _ _ _⟩, by simp [intOf]; omega⟩
    · have h0 : q = 0 := by omega
      subst h0
      have h3 : (p.gcd 0 : Int) = p := by rw [Int.gcd_zero_right]; omega
      have h4 := HG.out
      go_wp2
      go_ret
      exact ⟨ret_u64 (by rw [← h4]; exact h3.symm), n, rfl⟩

theorem u64_neg (a : Int) (h : a < 0) (ha : -9223372036854775808 ≤ a) : IntKind.u64.wrap (-IntKind.u64.wrap a) = a.natAbs := by
  simp [IntKind.wrap, IntKind.bits, IntKind.signed]; omega

theorem absolute_any (a : Int) (w : World) (ha : -9223372036854775808 ≤ a) (ha' : a ≤ 9223372036854775807) :
    Calls Tryd.prog 93 #[.int .i64 a] w fun e w' => e = .returned (.int .u64 (a.natAbs : Int)) ∧ w = w' := by
  by_cases h : a < 0
  · go_enter Tryd.func93, Tryd.ntmps93
    go_wp2
    go_ret
    exact ⟨ret_u64 (u64_neg a h ha), rfl⟩
  · go_enter Tryd.func93, Tryd.ntmps93
    go_wp2
    go_ret
    exact ⟨ret_u64 (by omega), rfl⟩

theorem l16In_any (x a b : Int) (w : World) :
    Calls Tryd.prog 44 #[.int .i64 x, .int .i64 a, .int .i64 b] w fun e w' => e = .returned (.bool (inB x a b)) ∧ w = w' := by
  go_enter Tryd.func44, Tryd.ntmps44
  go_wp2
  all_goals (go_ret; exact ⟨ret_bool (by simp [inB, *]; try omega), rfl⟩)
theorem within_any (x a b : Int) (w : World) :
    Calls Tryd.prog 47 #[.int .i64 x, .int .i64 a, .int .i64 b] w fun e w' => e = .returned (.bool (inB x a b)) ∧ w = w' := by
  go_enter Tryd.func47, Tryd.ntmps47
  go_wp2
  all_goals (go_ret; exact ⟨ret_bool (by simp [inB, *]; try omega), rfl⟩)

theorem l26Gcd_as (a b : Int) (g : Nat) (w : World) (hg : Int.gcd a b = g) (ha : 0 ≤ a) (ha' : a ≤ 9223372036854775807) (hb : 0 ≤ b) (hb' : b ≤ 9223372036854775807) :
    Calls Tryd.prog 76 #[.int .i64 a, .int .i64 b] w fun e w' => e = .returned (.int .i64 (g : Nat)) ∧ ∃ n, w' = w.drewN n := by
  subst hg; exact l26Gcd_any a b w ha ha' hb hb'
theorem divisor_as (a b : Int) (g : Nat) (w : World) (hg : Int.gcd a b = g) (ha : 0 ≤ a) (ha' : a ≤ 18446744073709551615) (hb : 0 ≤ b) (hb' : b ≤ 18446744073709551615) :
    Calls Tryd.prog 92 #[.int .u64 a, .int .u64 b] w fun e w' => e = .returned (.int .u64 (g : Nat)) ∧ ∃ n, w' = w.drewN n := by
  subst hg; exact divisor_any a b w ha ha' hb hb'

set_option maxHeartbeats 1000000 in
theorem validRatio_any (n d : Int) (w : World) (hn : -9223372036854775808 ≤ n) (hn' : n ≤ 9223372036854775807) (hd : -9223372036854775808 ≤ d) (hd' : d ≤ 9223372036854775807) :
    Calls Tryd.prog 80 #[.agg #[.int .i64 n, .int .i64 d]] w fun e w' => e = .returned (.bool (vrB n d)) ∧ Below w.heap.size w w' := by
  by_cases h0 : 0 < d
  · rw [vrB_of n h0]
    have e1 := Lib.hid (show Int.gcd (n.natAbs : Int) d = n.gcd d from by simp [gcd_abs])
    go_enter Tryd.func80, Tryd.ntmps80
    go_wp2
    go_quiet ((first | (go_at_call 93; exact Calls.quiet_of_same ((absolute_any n _ hn hn').mono fun _ _ h => ⟨h.1, h.2.symm⟩)) | (go_at_call 92; exact Calls.quiet_of (divisor_as _ _ (n.gcd d) _ e1.out (by omega) (by omega) (by omega) (by omega)))))
    go_wp2
    go_ret
    exact ⟨ret_bool (by rw [Bool.eq_iff_iff]; simp; omega), (by ((repeat (first | (with_reducible exact Below.refl _ _) | (with_reducible refine below_drewN ?_ _) | (with_reducible refine Below.drew ?_) | (with_reducible refine below_al ?_ _) | (with_reducible refine below_on (by assumption) ?_) | ((with_reducible refine Below.setCell ?_ ?_ _); rotate_left; focus (first | omega | (simp; done) | (simp; omega))) | (with_reducible assumption))); done))⟩
  · rw [vrB_neg n (by omega)]
    have hx : decide (d > 0) = false := by simp; omega
    go_enter Tryd.func80, Tryd.ntmps80
    go_wp2
    go_quiet (fail)
    go_wp2
    go_ret
    exact ⟨rfl, (by ((repeat (first | (with_reducible exact Below.refl _ _) | (with_reducible refine below_drewN ?_ _) | (with_reducible refine Below.drew ?_) | (with_reducible refine below_al ?_ _) | (with_reducible refine below_on (by assumption) ?_) | ((with_reducible refine Below.setCell ?_ ?_ _); rotate_left; focus (first | omega | (simp; done) | (simp; omega))) | (with_reducible assumption))); done))⟩

theorem validRatio_is (n d : Int) (b : Bool) (w : World) (h : vrB n d = b) (hn : -9223372036854775808 ≤ n) (hn' : n ≤ 9223372036854775807) (hd : -9223372036854775808 ≤ d) (hd' : d ≤ 9223372036854775807) :
    Calls Tryd.prog 80 #[.agg #[.int .i64 n, .int .i64 d]] w fun e w' => e = .returned (.bool b) ∧ Below w.heap.size w w' := h ▸ validRatio_any n d w hn hn' hd hd'
end Go.Proofs.YtglddnkpccgchaaDoor

/- When a device is valid: plain. -/
namespace Go.Proofs.YtglddnkpccgchaaDoor
open Go.RowKit

/-- The number of pins that a kind asks. -/
def pinsOf (kind : Int) : Nat := if kind = 2 then 2 else 3
/-- A device is valid in a netlist of so many nets. -/
def dvB (nets : Int) (x : Dv) : Bool :=
  inB x.kind 0 2 && (decide (x.pins.length = pinsOf x.kind) && (inB x.wd 1 1000000 && (inB x.len 1 1000000 && (x.pins.all (fun p => inB p 0 (nets - 1)) && (decide (x.kind ≠ 2) || decide (Int.gcd x.wd x.len = 1))))))

section
variable {nets : Int} {x : Dv}
theorem dvB_kind (h : inB x.kind 0 2 = false) : dvB nets x = false := by simp [dvB, h]
theorem dvB_len (h : x.pins.length ≠ pinsOf x.kind) : dvB nets x = false := by simp [dvB, h]
theorem dvB_wd (h : inB x.wd 1 1000000 = false) : dvB nets x = false := by simp [dvB, h]
theorem dvB_lg (h : inB x.len 1 1000000 = false) : dvB nets x = false := by simp [dvB, h]
theorem dvB_pin {k : Nat} {p : Int} (hk : x.pins[k]? = some p) (h : inB p 0 (nets - 1) = false) : dvB nets x = false := by
  have : x.pins.all (fun p => inB p 0 (nets - 1)) = false := by
    rw [List.all_eq_false]; exact ⟨p, List.mem_of_getElem? hk, by simp [h]⟩
  simp [dvB, this]
theorem dvB_end (h1 : inB x.kind 0 2 = true) (h2 : x.pins.length = pinsOf x.kind) (h3 : inB x.wd 1 1000000 = true) (h4 : inB x.len 1 1000000 = true) (h5 : x.pins.all (fun p => inB p 0 (nets - 1)) = true) :
    dvB nets x = (decide (x.kind ≠ 2) || decide (Int.gcd x.wd x.len = 1)) := by simp [dvB, h1, h2, h3, h4, h5]
theorem dvB_all (h : dvB nets x = true) : inB x.kind 0 2 = true ∧ x.pins.length = pinsOf x.kind ∧ inB x.wd 1 1000000 = true ∧ inB x.len 1 1000000 = true ∧ (∀ p ∈ x.pins, inB p 0 (nets - 1) = true) ∧ (x.kind ≠ 2 ∨ Int.gcd x.wd x.len = 1) := by
  simpa [dvB] using h
end
end Go.Proofs.YtglddnkpccgchaaDoor

/- Names: the two IsName. -/
namespace Go.Proofs.YtglddnkpccgchaaDoor
open Go.RowKit
set_option linter.unusedVariables false
set_option linter.unusedSimpArgs false

/-- A byte of a name. -/
def chB (c : UInt8) : Bool := decide ((97 ≤ (c.toNat : Int) ∧ (c.toNat : Int) ≤ 122) ∨ (48 ≤ (c.toNat : Int) ∧ (c.toNat : Int) ≤ 57))
/-- The string is a name. -/
def nameB (s : ByteArray) : Bool := s.data.toList.all chB && decide (1 ≤ s.size ∧ s.size ≤ 8)

theorem all_at (s : ByteArray) (k : Nat) (h : k < s.size) (hp : chB s[k] = false) : nameB s = false := by
  have : s.data.toList.all chB = false := by
    rw [List.all_eq_false]
    refine ⟨s[k], ?_, by simp [hp]⟩
    exact Array.mem_toList_iff.2 (Array.getElem_mem (xs := s.data) h)
  simp [nameB, this]
theorem all_of (s : ByteArray) (h : ∀ (k : Nat) (hk : k < s.size), chB s[k] = true) : nameB s = decide (1 ≤ s.size ∧ s.size ≤ 8) := by
  have : s.data.toList.all chB = true := by
    rw [List.all_eq_true]
    intro x hx
    obtain ⟨k, hk, rfl⟩ := List.mem_iff_getElem.1 hx
    exact h k (by simpa using hk)
  simp [nameB, this]

set_option maxRecDepth 100000 in
set_option maxHeartbeats 1000000 in
theorem specIsName_any (s : ByteArray) (w : World) (hs : s.size ≤ 9223372036854775807) :
    Calls Tryd.prog 46 #[.string s] w fun e w' => e = .returned (.bool (nameB s)) ∧ w = w' := by
  have HN := Lib.hid (all_at s)
  have HA := Lib.hid (all_of s)
  generalize nameB s = r at *
  go_enter Tryd.func46, Tryd.ntmps46
  go_wp2
  go_loop [3] (fun i => ∃ k : Nat, k ≤ s.size ∧ i = .int .i64 k ∧ Hid (∀ (j : Nat) (hj : j < s.size), j < k → chB s[j] = true)) (fun i => s.size - (intOf i).toNat)
  case atStart => exact ⟨0, Nat.zero_le _, rfl, Lib.hid (by intro j _ h; omega)⟩
  case round =>
    obtain ⟨k, hk, rfl, HK⟩ := hrel
    by_cases hlt : k < s.size
    · have hc0 : (0 : Int) ≤ (s[k].toNat : Int) := by omega
      by_cases hch : chB s[k] = true
      · have HE := Lib.hid hch
        simp only [chB, decide_eq_true_eq] at hch
        rcases hch with ⟨h1, h2⟩ | ⟨h1, h2⟩
        all_goals
          go_wp2
          go_round
          case rel => exact ⟨k + 1, by omega, by go_num, Lib.hid (fun j hj hjk => by
            by_cases e : j = k
            · subst e; exact HE.out
            · exact HK.out j hj (by omega))⟩
          case measure => simp [intOf]; omega
      · have hr := Lib.hid (HN.out k hlt (by simpa using hch))
        simp only [chB, decide_eq_true_eq, not_or, not_and] at hch
        have hq : ((s[k].toNat : Int) < 48) ∨ ((57 : Int) < (s[k].toNat : Int) ∧ (s[k].toNat : Int) < 97) ∨ ((122 : Int) < (s[k].toNat : Int)) := by omega
        clear hch
        rcases hq with h1 | ⟨h1, h2⟩ | h1
        all_goals
          go_wp2
          all_goals first
            | (exfalso; simp only [Bool.not_eq_false', Bool.not_eq_eq_eq_not, Bool.not_false, Bool.not_true, decide_eq_true_eq] at *; omega)
            | (go_ret; exact ⟨ret_bool hr.out.symm, rfl⟩)
    · obtain rfl : k = s.size := by omega
      have hr := Lib.hid (HA.out (fun j hj => HK.out j hj hj))
      go_wp2
      all_goals
        go_ret
        exact ⟨ret_bool (by rw [hr.out, Bool.eq_iff_iff]; simp; omega), rfl⟩

set_option maxRecDepth 100000 in
set_option maxHeartbeats 1000000 in
theorem implIsName_any (s : ByteArray) (w : World) (hs : s.size ≤ 9223372036854775807) :
    Calls Tryd.prog 48 #[.string s] w fun e w' => e = .returned (.bool (nameB s)) ∧ w = w' := by
  have HN := Lib.hid (all_at s)
  have HA := Lib.hid (all_of s)
  generalize nameB s = r at *
  go_enter Tryd.func48, Tryd.ntmps48
  go_wp2
  go_loop [3] (fun i => ∃ k : Nat, k ≤ s.size ∧ i = .int .i64 k ∧ Hid (∀ (j : Nat) (hj : j < s.size), j < k → chB s[j] = true)) (fun i => s.size - (intOf i).toNat)
  case atStart => exact ⟨0, Nat.zero_le _, rfl, Lib.hid (by intro j _ h; omega)⟩
  case round =>
    obtain ⟨k, hk, rfl, HK⟩ := hrel
    by_cases hlt : k < s.size
    · have hc0 : (0 : Int) ≤ (s[k].toNat : Int) := by omega
      by_cases hch : chB s[k] = true
      · have HE := Lib.hid hch
        simp only [chB, decide_eq_true_eq] at hch
        rcases hch with ⟨h1, h2⟩ | ⟨h1, h2⟩
        all_goals
          go_wp2
          go_round
          case rel => exact ⟨k + 1, by omega, by go_num, Lib.hid (fun j hj hjk => by
            by_cases e : j = k
            · subst e; exact HE.out
            · exact HK.out j hj (by omega))⟩
          case measure => simp [intOf]; omega
      · have hr := Lib.hid (HN.out k hlt (by simpa using hch))
        simp only [chB, decide_eq_true_eq, not_or, not_and] at hch
        have hq : ((s[k].toNat : Int) < 48) ∨ ((57 : Int) < (s[k].toNat : Int) ∧ (s[k].toNat : Int) < 97) ∨ ((122 : Int) < (s[k].toNat : Int)) := by omega
        clear hch
        rcases hq with h1 | ⟨h1, h2⟩ | h1
        all_goals
          go_wp2
          all_goals first
            | (exfalso; simp only [Bool.not_eq_false', Bool.not_eq_eq_eq_not, Bool.not_false, Bool.not_true, decide_eq_true_eq] at *; omega)
            | (go_ret; exact ⟨ret_bool hr.out.symm, rfl⟩)
    · obtain rfl : k = s.size := by omega
      have hr := Lib.hid (HA.out (fun j hj => HK.out j hj hj))
      go_wp2
      all_goals
        go_ret
        exact ⟨ret_bool (by rw [hr.out, Bool.eq_iff_iff]; simp; omega), rfl⟩
end Go.Proofs.YtglddnkpccgchaaDoor

/- When a netlist is valid: plain. -/
namespace Go.Proofs.YtglddnkpccgchaaDoor
open Go.RowKit

/-- A string lies ahead of another one. -/
def ltS (a b : ByteArray) : Bool := Op.bytesLess a.toList b.toList
/-- Port i of the ports is in order. -/
def ptOk (nets : Int) (ps : List Pt) (i : Nat) : Bool :=
  match ps[i]? with
  | none => true
  | some x => nameB x.name && (inB x.net 0 (nets - 1) && (match i with | 0 => true | j + 1 => match ps[j]? with | some y => ltS y.name x.name | none => true))
def ptsB (nets : Int) (ps : List Pt) : Bool := (List.range ps.length).all (ptOk nets ps)
/-- The netlist is valid. -/
def nlB (x : Nl) : Bool := inB x.nets 0 24 && (decide (x.ds.length ≤ 24) && (decide (x.ps.length ≤ 8) && (x.ds.all (dvB x.nets) && ptsB x.nets x.ps)))

section
variable {nets : Int} {ps : List Pt} {x y : Pt} {i : Nat}
theorem ptOk_name (h : ps[i]? = some x) (hn : nameB x.name = false) : ptOk nets ps i = false := by unfold ptOk; rw [h]; simp [hn]
theorem ptOk_net (h : ps[i]? = some x) (hn : inB x.net 0 (nets - 1) = false) : ptOk nets ps i = false := by unfold ptOk; rw [h]; simp [hn]
theorem ptOk_lt (h : ps[i + 1]? = some x) (h' : ps[i]? = some y) (hn : Op.bytesLess y.name.toList x.name.toList = false) : ptOk nets ps (i + 1) = false := by unfold ptOk; rw [h]; simp [h', ltS, hn]
theorem ptOk_zero (h : ps[0]? = some x) (h1 : nameB x.name = true) (h2 : inB x.net 0 (nets - 1) = true) : ptOk nets ps 0 = true := by unfold ptOk; rw [h]; simp [h1, h2]
theorem ptOk_succ (h : ps[i + 1]? = some x) (h' : ps[i]? = some y) (h1 : nameB x.name = true) (h2 : inB x.net 0 (nets - 1) = true) (h3 : Op.bytesLess y.name.toList x.name.toList = true) : ptOk nets ps (i + 1) = true := by unfold ptOk; rw [h]; simp [h', ltS, h1, h2, h3]
variable {n : Nl}
theorem nlB_nets (h : inB n.nets 0 24 = false) : nlB n = false := by simp [nlB, h]
theorem nlB_ds (h : ¬ n.ds.length ≤ 24) : nlB n = false := by simp [nlB]; omega
theorem nlB_ps (h : ¬ n.ps.length ≤ 8) : nlB n = false := by simp [nlB]; omega
theorem nlB_any (h : (n.ds.all (dvB n.nets)) = false) : nlB n = false := by simp [nlB, h]
theorem nlB_dv {k : Nat} {d : Dv} (hk : n.ds[k]? = some d) (h : dvB n.nets d = false) : nlB n = false := by
  apply nlB_any
  rw [List.all_eq_false]; exact ⟨d, List.mem_of_getElem? hk, by simp [h]⟩
theorem nlB_pt (hi : i < n.ps.length) (h : ptOk n.nets n.ps i = false) : nlB n = false := by
  have : ptsB n.nets n.ps = false := by
    unfold ptsB; rw [List.all_eq_false]; exact ⟨i, List.mem_range.2 hi, by simp [h]⟩
  simp [nlB, this]
theorem all_dv {nets : Int} {ds : List Dv} (h : ∀ (j : Nat) d, j < ds.length → ds[j]? = some d → dvB nets d = true) : ds.all (dvB nets) = true := by
  rw [List.all_eq_true]; intro d hd
  obtain ⟨j, hj, e⟩ := List.mem_iff_getElem.1 hd
  exact h j d hj (by rw [List.getElem?_eq_getElem hj, e])
theorem nlB_pts (h1 : inB n.nets 0 24 = true) (h2 : n.ds.length ≤ 24) (h3 : n.ps.length ≤ 8) (h5 : ∀ i, i < n.ps.length → ptOk n.nets n.ps i = true) : nlB n = n.ds.all (dvB n.nets) := by
  have : ptsB n.nets n.ps = true := by unfold ptsB; rw [List.all_eq_true]; intro i hi; exact h5 i (List.mem_range.1 hi)
  simp [nlB, h1, h2, h3, this]
end
end Go.Proofs.YtglddnkpccgchaaDoor

/- Degrees of nets: plain. -/
namespace Go.Proofs.YtglddnkpccgchaaDoor
open Go.RowKit

/-- The number of pins on a net. -/
def degN : List Dv → Int → Nat
  | [], _ => 0
  | d :: ds, net => d.pins.count net + degN ds net
theorem degN_snoc (ds : List Dv) (d : Dv) (net : Int) : degN (ds ++ [d]) net = degN ds net + d.pins.count net := by
  induction ds with
  | nil => simp [degN]
  | cons y ys ih => simp only [List.cons_append, degN, ih]; omega
theorem take_snoc_of {α : Type} (xs : List α) (k : Nat) (x : α) (h : xs[k]? = some x) : xs.take (k + 1) = xs.take k ++ [x] := by
  rw [List.take_add_one, h]; rfl
theorem degN_take (ds : List Dv) (k : Nat) (d : Dv) (h : ds[k]? = some d) (net : Int) : degN (ds.take (k + 1)) net = degN (ds.take k) net + d.pins.count net := by
  rw [take_snoc_of ds k d h, degN_snoc]
theorem count_take (zs : List Int) (j : Nat) (z : Int) (h : zs[j]? = some z) (net : Int) : (zs.take (j + 1)).count net = (zs.take j).count net + if z = net then 1 else 0 := by
  rw [take_snoc_of zs j z h, List.count_append, List.count_singleton]; simp
theorem degN_le (ds : List Dv) (net : Int) (h : ∀ d ∈ ds, d.pins.length ≤ 3) : degN ds net ≤ 3 * ds.length := by
  induction ds with
  | nil => simp [degN]
  | cons y ys ih =>
    have h1 := ih (fun d hd => h d (List.mem_cons_of_mem _ hd))
    have h2 := h y List.mem_cons_self
    have h3 := List.count_le_length (a := net) (l := y.pins)
    simp only [degN, List.length_cons]; omega
theorem degN_take_le (ds : List Dv) (k : Nat) (net : Int) (hl : ds.length ≤ 24) (h : ∀ d ∈ ds, d.pins.length ≤ 3) : degN (ds.take k) net ≤ 72 := by
  have := degN_le (ds.take k) net (fun d hd => h d (List.mem_of_mem_take hd))
  have := List.length_take_le k ds
  have : (ds.take k).length ≤ ds.length := by rw [List.length_take]; omega
  omega
theorem count_take_le (zs : List Int) (j : Nat) (net : Int) (h : zs.length ≤ 3) : (zs.take j).count net ≤ 3 := by
  have := List.count_le_length (a := net) (l := zs.take j)
  have : (zs.take j).length ≤ zs.length := by rw [List.length_take]; omega
  omega
/-- The degrees of all nets. -/
def degs (n : Nat) (ds : List Dv) : List Int := (List.range n).map fun (i : Nat) => (degN ds (i : Int) : Int)
theorem length_degs (n : Nat) (ds : List Dv) : (degs n ds).length = n := by simp [degs]
theorem degs_get (n : Nat) (ds : List Dv) (i : Nat) (h : i < n) : (degs n ds)[i]? = some ((degN ds (i : Int) : Nat) : Int) := by simp [degs, h]

/-- What a valid netlist is worth to a walk. -/
theorem nlB_facts {x : Nl} (h : nlB x = true) : (0 ≤ x.nets ∧ x.nets ≤ 24) ∧ x.ds.length ≤ 24 ∧ x.ps.length ≤ 8 ∧ (∀ d ∈ x.ds, dvB x.nets d = true) ∧ ∀ i, i < x.ps.length → ptOk x.nets x.ps i = true := by
  simp only [nlB, Bool.and_eq_true, decide_eq_true_eq, List.all_eq_true, ptsB, List.mem_range] at h
  exact ⟨inB_iff.1 h.1, h.2.1, h.2.2.1, h.2.2.2.1, h.2.2.2.2⟩
theorem dvB_pins {nets : Int} {d : Dv} (h : dvB nets d = true) : d.pins.length ≤ 3 ∧ 2 ≤ d.pins.length ∧ ∀ p ∈ d.pins, 0 ≤ p ∧ p < nets := by
  obtain ⟨h1, h2, h3, h4, h5, h6⟩ := dvB_all h
  refine ⟨by rw [h2]; unfold pinsOf; split <;> omega, by rw [h2]; unfold pinsOf; split <;> omega, fun p hp => ?_⟩
  have := inB_iff.1 (h5 p hp); omega
end Go.Proofs.YtglddnkpccgchaaDoor

/- Contracts of the two functions that bring a ratio to lowest terms. -/
namespace Go.Proofs.YtglddnkpccgchaaDoor
open Go.RowKit
set_option linter.unusedVariables false
set_option linter.unusedSimpArgs false

set_option maxHeartbeats 1000000 in
theorem l26Reduce_any (n d : Int) (w : World) (hn : -9223372036854775807 ≤ n) (hn' : n ≤ 9223372036854775807) (hd : -9223372036854775807 ≤ d) (hd' : d ≤ 9223372036854775807) (h0 : d ≠ 0) :
    Calls Tryd.prog 105 #[.int .i64 n, .int .i64 d] w fun e w' => e = .returned (.agg #[.int .i64 (redN n d), .int .i64 (redD n d)]) ∧ Below w.heap.size w w' := by
  have g1 := gcd_pos_of n d h0
  have g2 := gcd_le_of n d h0
  have q1 := tdiv_bd n (Int.gcd n d : Nat) (by omega) 9223372036854775807 hn hn'
  have q2 := tdiv_bd d (Int.gcd n d : Nat) (by omega) 9223372036854775807 hd hd'
  have e1 := Lib.hid (show Int.gcd (-n) (-d) = n.gcd d from by simp [Int.neg_gcd, Int.gcd_neg])
  have e2 := Lib.hid (show Int.gcd n (-d) = n.gcd d from by simp [Int.gcd_neg])
  have e3 := Lib.hid (show Int.gcd (-n) d = n.gcd d from by simp [Int.neg_gcd])
  have e4 := Lib.hid (show Int.gcd n d = n.gcd d from rfl)
  have e5 := Lib.hid (show Int.gcd ((-n).natAbs : Int) (-d) = n.gcd d from by simp [Int.gcd_neg, gcd_abs])
  have e6 := Lib.hid (show Int.gcd (n.natAbs : Int) d = n.gcd d from by simp [gcd_abs])
  by_cases hdn : d < 0
  all_goals
    go_enter Tryd.func105, Tryd.ntmps105
    go_wp2_with (go_at_call 76; refine (l26Gcd_as _ _ (n.gcd d) _ (by first | exact e1.out | exact e2.out | exact e3.out | exact e4.out | exact e5.out | exact e6.out) (by omega) (by omega) (by omega) (by omega)).mono ?_; rintro e w' ⟨rfl, nq, rfl⟩)
  all_goals
    go_region
    go_wp2
    exact bodyPost_ret (v := .agg #[.int .i64 (redN n d), .int .i64 (redD n d)]) (by first | simp [results, Tryd.results105, go_sem, redN_lt _ hdn, redD_lt _ hdn] | simp [results, Tryd.results105, go_sem, redN_ge _ hdn, redD_ge _ hdn]) rfl ⟨rfl, by repeat (first | exact Below.refl _ _ | apply Below.drew | apply below_drewN | refine Below.setCell ?_ (by simp) _ | refine Below.alloc ?_ (by simp) _)⟩

end Go.Proofs.YtglddnkpccgchaaDoor
