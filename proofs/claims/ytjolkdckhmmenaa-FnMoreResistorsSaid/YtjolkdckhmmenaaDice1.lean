/- The dice of the laws, beside the draws of the reference. -/
import Derived.Test.YtjolkdckhmmenaaSrc
import Derived.Test.YtjolkdckhmmenaaBase
import Derived.Deep.QuietTactic
import Derived.BigQuiet
import Derived.StillTailTactics
import Derived.Deep.DeepCutAuto
namespace Go.Proofs.Ytjolkdckhmmenaa
open Go.RowKit
set_option linter.unusedVariables false
set_option linter.unusedSimpArgs false

/-- A cell that is there is there in every later world. -/
theorem cell_byD {w w1 : World} {p : Addr} {v : Value} (hb : Below w.heap.size w w1) (h : w.cell? p = some v) : w1.cell? p = some v := by
  have hlt : p.block < w.heap.size := by
    rcases Nat.lt_or_ge p.block w.heap.size with h' | h'
    · exact h'
    · simp [World.cell?, Array.getElem?_eq_none h'] at h
  rw [hb.cell hlt]; exact h
set_option maxRecDepth 100000 in
set_option maxHeartbeats 1000000 in
theorem roll_any (v : Value) (n : Nat) (s : Int) (w : World) (h : Bytes w v n) :
    Calls Try.prog 15 #[v, .int .u64 s] w fun e w' => e = .returned (.pointer (some ⟨w.heap.size, 0, none⟩)) ∧ (∃ x, Blk w' w.heap.size #[v, .int .i64 0, .int .u64 x] 56) ∧ Below w.heap.size w w' := by
  rcases h with ⟨a0, c0, rfl, rfl⟩ | ⟨b, off, cap, rfl, h2, h3, h4⟩
  · go_enter Try.func15, Try.ntmps15
    go_wp2
    go_loopw [6] (fun i wr => i = .int .i64 0 ∧ (∃ x, Blk wr w.heap.size #[.slice a0 0 c0, .int .i64 0, .int .u64 x] 56) ∧ Below w.heap.size w wr) (fun _ _ => 0)
    case atStart => exact ⟨rfl, ⟨_, (by ((repeat (first | (with_reducible assumption) | (with_reducible refine Blk.drewN ?_ _) | (with_reducible refine Blk.drew ?_) | ((with_reducible refine Blk.new _ ?_); focus (first | omega | (simp; done) | (simp; omega))) | (with_reducible refine Blk.past ?_ _) | ((with_reducible refine Blk.apart ?_ _ _ _ ?_); rotate_left; focus (first | omega | (simp; done) | (simp; omega))) | (with_reducible refine Blk.by (by assumption) ?_))); done))⟩, (by ((repeat (first | (with_reducible exact Below.refl _ _) | (with_reducible refine below_drewN ?_ _) | (with_reducible refine Below.drew ?_) | (with_reducible refine below_al ?_ _) | (with_reducible refine below_on (by assumption) ?_) | ((with_reducible refine Below.setCell ?_ ?_ _); rotate_left; focus (first | omega | (simp; done) | (simp; omega))) | (with_reducible assumption))); done))⟩
    case round =>
      obtain ⟨rfl, hx, hb⟩ := hrel
      go_wp2
      go_ret
      exact ⟨rfl, hx, hb⟩
  · unfold maxLen at h3
    go_enter Try.func15, Try.ntmps15
    go_wp2
    go_loopw [6] (fun i wr => ∃ k : Nat, k ≤ n ∧ i = .int .i64 k ∧ (∃ x, Blk wr w.heap.size #[.slice (some ⟨b, off, none⟩) n cap, .int .i64 0, .int .u64 x] 56) ∧ Below w.heap.size w wr) (fun i _ => n - (intOf i).toNat)
    case atStart => exact ⟨0, Nat.zero_le _, rfl, ⟨_, (by ((repeat (first | (with_reducible assumption) | (with_reducible refine Blk.drewN ?_ _) | (with_reducible refine Blk.drew ?_) | ((with_reducible refine Blk.new _ ?_); focus (first | omega | (simp; done) | (simp; omega))) | (with_reducible refine Blk.past ?_ _) | ((with_reducible refine Blk.apart ?_ _ _ _ ?_); rotate_left; focus (first | omega | (simp; done) | (simp; omega))) | (with_reducible refine Blk.by (by assumption) ?_))); done))⟩, (by ((repeat (first | (with_reducible exact Below.refl _ _) | (with_reducible refine below_drewN ?_ _) | (with_reducible refine Below.drew ?_) | (with_reducible refine below_al ?_ _) | (with_reducible refine below_on (by assumption) ?_) | ((with_reducible refine Below.setCell ?_ ?_ _); rotate_left; focus (first | omega | (simp; done) | (simp; omega))) | (with_reducible assumption))); done))⟩
    case round =>
      obtain ⟨k, hk, rfl, ⟨x, hx⟩, hb⟩ := hrel
      by_cases hlt : k < n
      · obtain ⟨y, hy, hy0, hy1⟩ := h4 k hlt
        have hyc := cell_byD hb hy
        have hxc := hx.cell
        have hxf := hx.free
        go_wp2
        go_still_tail 15, (by kernel_rfl)
        change wpList _ _ _ _ _ wr.drew
        go_wp2
        exact ⟨⟨k + 1, by omega, by go_num, ⟨_, (hx.set 2 _).drew⟩, (by ((repeat (first | (with_reducible exact Below.refl _ _) | (with_reducible refine below_drewN ?_ _) | (with_reducible refine Below.drew ?_) | (with_reducible refine below_al ?_ _) | (with_reducible refine below_on (by assumption) ?_) | ((with_reducible refine Below.setCell ?_ ?_ _); rotate_left; focus (first | omega | (simp; done) | (simp; omega))) | (with_reducible assumption))); done))⟩, by simp [intOf]; omega⟩
      · go_wp2
        go_ret
        exact ⟨rfl, ⟨x, hx⟩, hb⟩

/-- Block g is a dice over the bytes of sv, laid behind the world W0. -/
def Dice (W0 : World) (g : Nat) (sv : Value) (n : Nat) (w : World) : Prop :=
  W0.heap.size ≤ g ∧ Below W0.heap.size W0 w ∧ Bytes W0 sv n ∧ n ≤ 4096 ∧ ∃ i x : Int, 0 ≤ i ∧ i ≤ n ∧ Blk w g #[sv, .int .i64 i, .int .u64 x] 56
theorem Dice.lt {W0 w : World} {g n : Nat} {sv : Value} (h : Dice W0 g sv n w) : g < w.heap.size := by
  obtain ⟨_, _, _, _, _, _, _, _, h⟩ := h; exact h.lt
theorem Dice.ge {W0 w : World} {g n : Nat} {sv : Value} (h : Dice W0 g sv n w) : W0.heap.size ≤ g := h.1
theorem Dice.below {W0 w : World} {g n : Nat} {sv : Value} (h : Dice W0 g sv n w) : Below W0.heap.size W0 w := h.2.1
theorem Dice.by {W0 w w1 : World} {g n : Nat} {sv : Value} (hb : Below w.heap.size w w1) (h : Dice W0 g sv n w) : Dice W0 g sv n w1 := by
  obtain ⟨h1, h2, h3, h4, i, x, h5, h6, h7⟩ := h
  exact ⟨h1, h2.trans (hb.mono h2.size), h3, h4, i, x, h5, h6, Blk.by hb h7⟩
theorem Dice.alloc {W0 w : World} {g n : Nat} {sv : Value} (h : Dice W0 g sv n w) (o : Obj) : Dice W0 g sv n (w.alloc o) :=
  h.by ((Below.refl _ _).alloc (Nat.le_refl _) o)
theorem Dice.drewN {W0 w : World} {g n : Nat} {sv : Value} (h : Dice W0 g sv n w) (k : Nat) : Dice W0 g sv n (w.drewN k) := h.by (below_of_drewN w k)
theorem Dice.apart {W0 w : World} {g n b o : Nat} {sv v : Value} (h : Dice W0 g sv n w) (hne : g ≠ b) (hb : W0.heap.size ≤ b) : Dice W0 g sv n (w.setCell ⟨b, o, none⟩ v) := by
  obtain ⟨h1, h2, h3, h4, i, x, h5, h6, h7⟩ := h
  exact ⟨h1, h2.setCell hb v, h3, h4, i, x, h5, h6, h7.apart b o v hne⟩

theorem dice_of_roll {W0 w w' : World} {sv : Value} {n : Nat} {x : Int} (hb : Below W0.heap.size W0 w) (hB : Bytes W0 sv n) (hn : n ≤ 4096) (h : Blk w' w.heap.size #[sv, .int .i64 0, .int .u64 x] 56) (hb' : Below w.heap.size w w') : Dice W0 w.heap.size sv n w' :=
  ⟨hb.size, hb.trans (hb'.mono hb.size), hB, hn, 0, x, by omega, by omega, h⟩

theorem u64_wrap_bd (y : Int) : 0 ≤ IntKind.u64.wrap y ∧ IntKind.u64.wrap y < 18446744073709551616 := by
  simp only [IntKind.wrap, IntKind.bits, IntKind.signed]; simp; omega
/-- What the dice takes off its state: below 2 to the 24th. -/
theorem dice_bits (y : Int) : 0 ≤ wrap64 (bits BinOp.and IntKind.u64 (IntKind.u64.wrap y / 8589934592) 16777215) ∧ wrap64 (bits BinOp.and IntKind.u64 (IntKind.u64.wrap y / 8589934592) 16777215) ≤ 16777215 := by
  have hb := u64_wrap_bd y
  generalize IntKind.u64.wrap y = z at hb
  have h := bits_and_u64_nat (z / 8589934592).toNat 16777215 (by omega) (by omega)
  have h1 : (((z / 8589934592).toNat : Nat) : Int) = z / 8589934592 := by omega
  rw [h1] at h
  have h2 : (z / 8589934592).toNat &&& 16777215 = (z / 8589934592).toNat % 16777216 := Nat.and_two_pow_sub_one_eq_mod _ 24
  rw [h2] at h
  have h3 : bits BinOp.and IntKind.u64 (z / 8589934592) 16777215 = (((z / 8589934592).toNat % 16777216 : Nat) : Int) := h
  rw [h3]
  unfold wrap64
  omega

set_option maxRecDepth 100000 in
set_option maxHeartbeats 1000000 in
theorem below_any (W0 : World) (g : Nat) (sv : Value) (n : Nat) (m : Int) (w : World) (hD : Dice W0 g sv n w) (hm : 0 < m) (hm' : m ≤ 1000000000) :
    Calls Try.prog 17 #[.pointer (some ⟨g, 0, none⟩), .int .i64 m] w fun e w' => ∃ v : Int, e = .returned (.int .i64 v) ∧ 0 ≤ v ∧ v < m ∧ Dice W0 g sv n w' ∧ Only g w w' := by
  obtain ⟨hg, hb, hB, hn, i, x, hi, hi', hx⟩ := hD
  have hxc := hx.cell
  have hxf := hx.free
  rcases hB with ⟨a0, c0, rfl, rfl⟩ | ⟨b, off, cap, rfl, h2, h3, h4⟩
  · obtain rfl : i = 0 := by omega
    go_enter Try.func17, Try.ntmps17
    go_upto_region 3 with fail
    have hz := dice_bits (IntKind.u64.wrap (x * 6364136223846793005) + 1442695040888963407)
    generalize wrap64 (bits BinOp.and IntKind.u64 (IntKind.u64.wrap (IntKind.u64.wrap (x * 6364136223846793005) + 1442695040888963407) / 8589934592) 16777215) = z at *
    go_quiet (fail)
    go_wp2
    go_ret
    have ho : Only g w ((w.setCell ⟨g, 2, none⟩ (.int .u64 (IntKind.u64.wrap (IntKind.u64.wrap (x * 6364136223846793005) + 1442695040888963407)))).drewN nq) := ((Only.refl g w).set 2 _).drewN nq
    exact ⟨z % m, rfl, Int.emod_nonneg _ (by omega), Int.emod_lt_of_pos _ hm, ⟨hg, ho.below hb hg, .inl ⟨a0, c0, rfl, rfl⟩, hn, 0, _, by omega, by omega, (hx.set 2 _).drewN nq⟩, ho⟩
  · unfold maxLen at h3
    by_cases hlt : i < n
    · obtain ⟨y, hy, hy0, hy1⟩ := h4 i.toNat (by omega)
      obtain ⟨j, rfl⟩ := Int.eq_ofNat_of_zero_le hi
      rw [Int.toNat_natCast] at hy
      have hyc := cell_byD hb hy
      have hne : b ≠ g := by
        have : b < W0.heap.size := by
          rcases Nat.lt_or_ge b W0.heap.size with h' | h'
          · exact h'
          · simp [World.cell?, Array.getElem?_eq_none h'] at hy
        omega
      go_enter Try.func17, Try.ntmps17
      go_upto_region 3 with fail
      have hz := dice_bits (IntKind.u64.wrap (x * 6364136223846793005) + 1442695040888963407)
      generalize wrap64 (bits BinOp.and IntKind.u64 (IntKind.u64.wrap (IntKind.u64.wrap (x * 6364136223846793005) + 1442695040888963407) / 8589934592) 16777215) = z at *
      go_quiet (fail)
      go_wp2
      go_quiet (fail)
      go_wp2
      go_ret
      refine ⟨(z + y) % m, rfl, Int.emod_nonneg _ (by omega), Int.emod_lt_of_pos _ hm, ?_, ?_⟩
      · refine ⟨hg, Only.below ?_ hb hg, .inr ⟨b, off, cap, rfl, h2, by unfold maxLen; exact h3, h4⟩, hn, (j : Int) + 1, _, by omega, by omega, ((hx.set 2 _).set 1 _).drewN _⟩
        repeat (first | exact Only.refl _ _ | refine Only.drewN ?_ _ | refine Only.set ?_ _ _)
      · repeat (first | exact Only.refl _ _ | refine Only.drewN ?_ _ | refine Only.set ?_ _ _)
    · go_enter Try.func17, Try.ntmps17
      go_upto_region 3 with fail
      have hz := dice_bits (IntKind.u64.wrap (x * 6364136223846793005) + 1442695040888963407)
      generalize wrap64 (bits BinOp.and IntKind.u64 (IntKind.u64.wrap (IntKind.u64.wrap (x * 6364136223846793005) + 1442695040888963407) / 8589934592) 16777215) = z at *
      go_quiet (fail)
      go_wp2
      go_ret
      have ho : Only g w ((w.setCell ⟨g, 2, none⟩ (.int .u64 (IntKind.u64.wrap (IntKind.u64.wrap (x * 6364136223846793005) + 1442695040888963407)))).drewN nq) := ((Only.refl g w).set 2 _).drewN nq
      exact ⟨z % m, rfl, Int.emod_nonneg _ (by omega), Int.emod_lt_of_pos _ hm, ⟨hg, ho.below hb hg, .inr ⟨b, off, cap, rfl, h2, by unfold maxLen; exact h3, h4⟩, hn, i, _, hi, hi', (hx.set 2 _).drewN nq⟩, ho⟩
end Go.Proofs.Ytjolkdckhmmenaa
