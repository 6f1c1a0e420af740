/- Slices of bytes, as the draws read them. -/
import Derived.Test.YtglddnkpccgchaaDoorBase
import Derived.Deep.QuietTactic
import Derived.BigQuiet
import Derived.StillTailTactics
import Derived.Deep.DeepCutAuto
namespace Go.Proofs.YtglddnkpccgchaaDoor
open Go.RowKit
set_option linter.unusedVariables false
set_option linter.unusedSimpArgs false

/-- A slice of bytes, as the dice reads it: each element's cell holds a byte. -/
def Bytes (w : World) (v : Value) (n : Nat) : Prop :=
  (∃ a c, v = .slice a 0 c ∧ n = 0) ∨ ∃ b off cap, v = .slice (some ⟨b, off, none⟩) n cap ∧ n ≤ cap ∧ cap ≤ maxLen ∧ ∀ i, i < n → ∃ x : Int, w.cell? ⟨b, off + i, none⟩ = some (.int .u8 x) ∧ 0 ≤ x ∧ x ≤ 255

theorem Bytes.by {w w1 : World} {v : Value} {n : Nat} (hb : Below w.heap.size w w1) (h : Bytes w v n) : Bytes w1 v n := by
  rcases h with h | ⟨b, off, cap, h1, h2, h3, h4⟩
  · exact .inl h
  · refine .inr ⟨b, off, cap, h1, h2, h3, fun i hi => ?_⟩
    obtain ⟨x, hx, h5⟩ := h4 i hi
    exact ⟨x, cell_by' hb hx, h5⟩

theorem big_any (v : Value) (n : Nat) (w : World) (h : Bytes w v n) :
    Calls Tryd.prog 15 #[v] w fun e w' => e = .returned (.bool (decide (4096 < n))) ∧ w = w' := by
  rcases h with ⟨a0, c0, rfl, rfl⟩ | ⟨b, off, cap, rfl, h2, h3, h4⟩
  · go_enter Tryd.func15, Tryd.ntmps15
    go_wp2
    go_ret
    exact ⟨rfl, rfl⟩
  · go_enter Tryd.func15, Tryd.ntmps15
    go_wp2
    go_ret
    exact ⟨ret_bool (by rw [Bool.eq_iff_iff]; simp; try omega), rfl⟩
end Go.Proofs.YtglddnkpccgchaaDoor

/- The reference's source of numbers: l01From makes a block of its own; l01Next turns that block alone and hands back a number in range. -/
namespace Go.Proofs.YtglddnkpccgchaaDoor
open Go.RowKit
set_option linter.unusedVariables false
set_option linter.unusedSimpArgs false

/-- Block g is a source over the bytes of sv, laid behind the world W0. -/
def Src1 (W0 : World) (g : Nat) (sv : Value) (n : Nat) (w : World) : Prop :=
  W0.heap.size ≤ g ∧ Below W0.heap.size W0 w ∧ Bytes W0 sv n ∧ n ≤ 5000 ∧ ∃ i x : Int, 0 ≤ i ∧ i ≤ n ∧ (0 ≤ x ∧ x ≤ 2147483646) ∧ Blk w g #[sv, .int .i64 i, .int .i64 x] 113
theorem Src1.lt {W0 w : World} {g n : Nat} {sv : Value} (h : Src1 W0 g sv n w) : g < w.heap.size := by
  obtain ⟨_, _, _, _, _, _, _, _, _, h⟩ := h; exact h.lt
theorem Src1.by {W0 w w1 : World} {g n : Nat} {sv : Value} (hb : Below w.heap.size w w1) (h : Src1 W0 g sv n w) : Src1 W0 g sv n w1 := by
  obtain ⟨h1, h2, h3, h4, i, x, h5, h6, h7, h8⟩ := h
  exact ⟨h1, h2.trans (hb.mono h2.size), h3, h4, i, x, h5, h6, h7, Blk.by hb h8⟩
theorem Src1.apart {W0 w : World} {g n b o : Nat} {sv v : Value} (h : Src1 W0 g sv n w) (hne : g ≠ b) (hb : W0.heap.size ≤ b) : Src1 W0 g sv n (w.setCell ⟨b, o, none⟩ v) := by
  obtain ⟨h1, h2, h3, h4, i, x, h5, h6, h7, h8⟩ := h
  exact ⟨h1, h2.setCell hb v, h3, h4, i, x, h5, h6, h7, h8.apart b o v hne⟩

set_option maxRecDepth 100000 in
set_option maxHeartbeats 1000000 in
theorem l01From_wide (v : Value) (n : Nat) (w : World) (h : Bytes w v n) (hn : n ≤ 5000) :
    Calls Tryd.prog 43 #[v] w fun e w' => e = .returned (.pointer (some ⟨w.heap.size, 0, none⟩)) ∧ Src1 w w.heap.size v n w' ∧ Below w.heap.size w w' := by
  have HB := Lib.hid h
  rcases h with ⟨a0, c0, rfl, rfl⟩ | ⟨b, off, cap, rfl, h2, h3, h4⟩
  · go_enter Tryd.func43, Tryd.ntmps43
    go_wp2
    go_loopw [4] (fun i wr => i = .int .i64 0 ∧ Blk wr w.heap.size #[.slice a0 0 c0, .int .i64 0, .int .i64 12345] 113 ∧ Below w.heap.size w wr) (fun _ _ => 0)
    case atStart => exact ⟨rfl, (by ((repeat (first | (with_reducible assumption) | (with_reducible refine Blk.drewN ?_ _) | (with_reducible refine Blk.drew ?_) | ((with_reducible refine Blk.new _ ?_); focus (first | omega | (simp; done) | (simp; omega))) | (with_reducible refine Blk.past ?_ _) | ((with_reducible refine Blk.apart ?_ _ _ _ ?_); rotate_left; focus (first | omega | (simp; done) | (simp; omega))) | (with_reducible refine Blk.by (by assumption) ?_))); done)), (by ((repeat (first | (with_reducible exact Below.refl _ _) | (with_reducible refine below_drewN ?_ _) | (with_reducible refine Below.drew ?_) | (with_reducible refine below_al ?_ _) | (with_reducible refine below_on (by assumption) ?_) | ((with_reducible refine Below.setCell ?_ ?_ _); rotate_left; focus (first | omega | (simp; done) | (simp; omega))) | (with_reducible assumption))); done))⟩
    case round =>
      obtain ⟨rfl, hx, hb⟩ := hrel
      go_wp2
      go_ret
      exact ⟨rfl, ⟨Nat.le_refl _, hb, HB.out, hn, 0, 12345, by omega, by omega, by omega, hx⟩, hb⟩
  · unfold maxLen at h3
    have H4 := Lib.hid h4
    clear h4
    go_enter Tryd.func43, Tryd.ntmps43
    go_wp2
    go_loopw [4] (fun i wr => ∃ (k : Nat) (x : Int), k ≤ n ∧ i = .int .i64 k ∧ (0 ≤ x ∧ x ≤ 2147483646) ∧ Blk wr w.heap.size #[.slice (some ⟨b, off, none⟩) n cap, .int .i64 0, .int .i64 x] 113 ∧ Below w.heap.size w wr) (fun i _ => n - (intOf i).toNat)
    case atStart => exact ⟨0, 12345, Nat.zero_le _, rfl, by omega, (by ((repeat (first | (with_reducible assumption) | (with_reducible refine Blk.drewN ?_ _) | (with_reducible refine Blk.drew ?_) | ((with_reducible refine Blk.new _ ?_); focus (first | omega | (simp; done) | (simp; omega))) | (with_reducible refine Blk.past ?_ _) | ((with_reducible refine Blk.apart ?_ _ _ _ ?_); rotate_left; focus (first | omega | (simp; done) | (simp; omega))) | (with_reducible refine Blk.by (by assumption) ?_))); done)), (by ((repeat (first | (with_reducible exact Below.refl _ _) | (with_reducible refine below_drewN ?_ _) | (with_reducible refine Below.drew ?_) | (with_reducible refine below_al ?_ _) | (with_reducible refine below_on (by assumption) ?_) | ((with_reducible refine Below.setCell ?_ ?_ _); rotate_left; focus (first | omega | (simp; done) | (simp; omega))) | (with_reducible assumption))); done))⟩
    case round =>
      obtain ⟨k, x, hk, rfl, ⟨hx0, hx1⟩, hx, hb⟩ := hrel
      by_cases hlt : k < n
      · by_cases h64 : k < 64
        · obtain ⟨y, hy, hy0, hy1⟩ := H4.out k hlt
          have hyc := cell_by' hb hy
          have hxc := hx.cell
          have hxf := hx.free
          have i1 : (0 : Int) ≤ (k : Int) := by omega
          have i2 : (k : Int) < (n : Int) := by omega
          have i3 : (k : Int) < 64 := by omega
          clear hy
          go_wp2
          go_still_tail 15, (by kernel_rfl)
          change wpList _ _ _ _ _ wr.drew
          go_wp2
          refine ⟨⟨k + 1, _, by omega, by go_num, ?_, (hx.set 2 _).drew, (by ((repeat (first | (with_reducible exact Below.refl _ _) | (with_reducible refine below_drewN ?_ _) | (with_reducible refine Below.drew ?_) | (with_reducible refine below_al ?_ _) | (with_reducible refine below_on (by assumption) ?_) | ((with_reducible refine Below.setCell ?_ ?_ _); rotate_left; focus (first | omega | (simp; done) | (simp; omega))) | (with_reducible assumption))); done))⟩, by simp [intOf]; omega⟩
          have e1 : wrap64 (x * 31) = x * 31 := by unfold wrap64; omega
          have e2 : wrap64 (x * 31 + y) = x * 31 + y := by unfold wrap64; omega
          have e3 : IntKind.i64.wrap (x * 31) = x * 31 := by simp [IntKind.wrap, IntKind.bits, IntKind.signed]; omega
          have e4 : IntKind.i64.wrap (x * 31 + y) = x * 31 + y := by simp [IntKind.wrap, IntKind.bits, IntKind.signed]; omega
          (try simp only [e1, e2, e3, e4])
          (try rw [Int.tmod_eq_emod_of_nonneg (by omega)])
          omega
        · have i3 : ¬ (k : Int) < 64 := by omega
          have i2 : (k : Int) < (n : Int) := by omega
          go_wp2
          go_ret
          exact ⟨rfl, ⟨Nat.le_refl _, hb, HB.out, hn, 0, x, by omega, by omega, ⟨hx0, hx1⟩, hx⟩, hb⟩
      · have i2 : ¬ (k : Int) < (n : Int) := by omega
        go_wp2
        go_ret
        exact ⟨rfl, ⟨Nat.le_refl _, hb, HB.out, hn, 0, x, by omega, by omega, ⟨hx0, hx1⟩, hx⟩, hb⟩
theorem l01From_any (v : Value) (n : Nat) (w : World) (h : Bytes w v n) (hn : n ≤ 4096) :
    Calls Tryd.prog 43 #[v] w fun e w' => e = .returned (.pointer (some ⟨w.heap.size, 0, none⟩)) ∧ Src1 w w.heap.size v n w' ∧ Below w.heap.size w w' := l01From_wide v n w h (by omega)
theorem emod_bd (a m : Int) (hm : 0 < m) : 0 ≤ a % m ∧ a % m < m := ⟨Int.emod_nonneg _ (by omega), Int.emod_lt_of_pos _ hm⟩

set_option maxRecDepth 100000 in
set_option maxHeartbeats 2000000 in
theorem l01Next_any (W0 : World) (g : Nat) (sv : Value) (n : Nat) (m : Int) (w : World) (hD : Src1 W0 g sv n w) (hm' : m ≤ 256) :
    Calls Tryd.prog 52 #[.pointer (some ⟨g, 0, none⟩), .int .i64 m] w fun e w' => ∃ v : Int, e = .returned (.int .i64 v) ∧ 0 ≤ v ∧ (v < m ∨ v = 0) ∧ Src1 W0 g sv n w' ∧ Only g w w' := by
  have HD := Lib.hid hD
  obtain ⟨hg, hb, hB, hn, i, x, hi, hi', ⟨hx0, hx1⟩, hx⟩ := hD
  have hxc := hx.cell
  have hxf := hx.free
  by_cases hm1 : m ≤ 1
  · go_enter Tryd.func52, Tryd.ntmps52
    go_wp2
    go_ret
    exact ⟨0, rfl, by omega, .inr rfl, HD.out, Only.refl _ _⟩
  · have hm1' : ¬ (256 : Int) < m := by omega
    have hmp : 0 < m := by omega
    have hm0 : m ≠ 0 := by omega
    by_cases hlt : i < n
    · rcases hB with ⟨a0, c0, rfl, rfl⟩ | ⟨b, off, cap, rfl, h2, h3, h4⟩
      · omega
      have h3' := h3
      unfold maxLen at h3
      obtain ⟨y, hy, hy0, hy1⟩ := h4 i.toNat (by omega)
      obtain ⟨j, rfl⟩ := Int.eq_ofNat_of_zero_le hi
      rw [Int.toNat_natCast] at hy
      have hyc := cell_by' hb hy
      have H4 := Lib.hid h4
      clear h4 hy
      go_enter Tryd.func52, Tryd.ntmps52
      go_wp2_with fail
      go_quiet (fail)
      go_wp2_with fail
      go_quiet (fail)
      go_wp2
      go_ret
      have hmod : y.tmod m = y % m := Int.tmod_eq_emod_of_nonneg hy0
      refine ⟨y % m, (by first | rfl | rw [hmod]), (emod_bd y m hmp).1, .inl (emod_bd y m hmp).2, ?_, ?_⟩
      · refine ⟨hg, Only.below ?_ hb hg, .inr ⟨b, off, cap, rfl, h2, h3', H4.out⟩, hn, (j : Int) + 1, x, by omega, by omega, ⟨hx0, hx1⟩, ?_⟩
        · repeat (first | exact Only.refl _ _ | refine Only.drewN ?_ _ | refine Only.set ?_ _ _)
        · first | exact (hx.drewN _).set 1 _ | exact ((hx.drewN _).drewN _).set 1 _ | exact (hx.set 1 _).drewN _
      · repeat (first | exact Only.refl _ _ | refine Only.drewN ?_ _ | refine Only.set ?_ _ _)
    · obtain rfl : i = (n : Int) := by omega
      obtain ⟨a0, c0, rfl⟩ : ∃ a c, sv = .slice a n c := by
        rcases hB with ⟨a0, c0, e1, e2⟩ | ⟨b, off, cap, e1, _⟩
        · exact ⟨a0, c0, by rw [e2]; exact e1⟩
        · exact ⟨_, _, e1⟩
      have HB := Lib.hid hB
      clear hB
      have e3 : IntKind.i64.wrap (x * 48271) = x * 48271 := by simp [IntKind.wrap, IntKind.bits, IntKind.signed]; omega
      have e4 : IntKind.i64.wrap (x * 48271 + 11) = x * 48271 + 11 := by simp [IntKind.wrap, IntKind.bits, IntKind.signed]; omega
      have e5 : (x * 48271 + 11).tmod 2147483647 = (x * 48271 + 11) % 2147483647 := Int.tmod_eq_emod_of_nonneg (by omega)
      obtain ⟨z, hz⟩ : ∃ z, (x * 48271 + 11) % 2147483647 = z := ⟨_, rfl⟩
      have hzb : 0 ≤ z ∧ z ≤ 2147483646 := by omega
      go_enter Tryd.func52, Tryd.ntmps52
      go_wp2_with fail
      go_quiet (fail)
      go_wp2
      go_ret
      refine ⟨z / 7 % m, rfl, (emod_bd _ m hmp).1, .inl (emod_bd _ m hmp).2, ?_, ?_⟩
      · refine ⟨hg, Only.below ?_ hb hg, HB.out, hn, (n : Int), z, by omega, by omega, hzb, ?_⟩
        · repeat (first | exact Only.refl _ _ | refine Only.drewN ?_ _ | refine Only.set ?_ _ _)
        · exact (hx.drewN _).set 2 _
      · repeat (first | exact Only.refl _ _ | refine Only.drewN ?_ _ | refine Only.set ?_ _ _)
end Go.Proofs.YtglddnkpccgchaaDoor

/- The opener of an argument that is a slice of bytes. -/
namespace Go.Proofs.YtglddnkpccgchaaDoor
open Go.ChangeShapes Go.WideShapes Go.ChangeAt Go.RowKit Go.Joins

theorem addr_addY (b off i : Nat) : (⟨b, off, none⟩ : Addr).add i = ⟨b, off + i, none⟩ := by
  by_cases h : i = 0 <;> simp [Addr.add, h]
set_option maxRecDepth 100000 in
theorem opened_bytes {H : Type} {enc : TypeId × Value → H} {W : World} {base b0 : Nat} {r : Reach} {spare : Nat → Bool} {held : Bool} {v : Value} {d : DataW H} {p : List MemPlace}
    (hv : Value.okWide Tryd.prog W r b0 39 v) (h : DataW.Trod enc Tryd.prog W base spare held 39 v d p) : ∃ n, Bytes W v n := by
  obtain ⟨a0, len0, cap0, rfl⟩ := okWide_slice Tryd.underlying39 hv
  obtain ⟨fuel, hf⟩ := h
  rcases open_ints Tryd.underlying39 Tryd.underlying5 (by kernel_rfl) hf with ⟨hcs, _⟩ | ⟨x, l, c, zs, hcs, _, hl, hm, hz, _, hcell, hwz⟩
  · simp [Value.cells] at hcs
    obtain ⟨rfl, rfl, rfl⟩ := hcs
    exact ⟨0, .inl ⟨_, _, rfl, rfl⟩⟩
  · simp [Value.cells] at hcs
    obtain ⟨rfl, rfl, rfl⟩ := hcs
    by_cases h0 : len0 = 0
    · subst h0
      exact ⟨0, .inl ⟨_, _, rfl, rfl⟩⟩
    · obtain ⟨b, off, spot⟩ := x
      have hzl : len0 ≤ zs.length := by rw [hz]; split <;> omega
      have hspot : spot = none := by simpa [Addr.add] using World.cell?_spot (hcell 0 (by omega))
      subst hspot
      refine ⟨len0, .inr ⟨b, off, cap0, rfl, hl, hm, fun i hi => ⟨zs.getD i 0, by have := hcell i (by omega); rw [addr_addY] at this; exact this, ?_⟩⟩⟩
      have hmem : zs.getD i 0 ∈ zs := by
        rw [List.getD_eq_getElem?_getD, List.getElem?_eq_getElem (by omega)]
        exact List.getElem_mem _
      exact bounds_u8 (hwz _ hmem)
end Go.Proofs.YtglddnkpccgchaaDoor
