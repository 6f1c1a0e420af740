/- l28Common. -/
import Derived.Test.YtnchhdhlhlcejaaSerB
namespace Go.Proofs.Ytnchhdhlhlcejaa
open Go.RowKit
set_option linter.unusedVariables false
set_option linter.unusedSimpArgs false

def c1C (p r s : Int) : Int := if p = r ∨ p = s then 1 else 0
def n1N (p r s : Int) : Int := if p = r ∨ p = s then p else 0
theorem comC_eq (p q r s : Int) : comC p q r s = c1C p r s + c1C q r s := rfl
theorem comN_eq (p q r s : Int) : comN p q r s = if q = r ∨ q = s then q else n1N p r s := rfl
theorem comC_bd (p r s : Int) : 0 ≤ c1C p r s ∧ c1C p r s ≤ 1 := by unfold c1C; split <;> omega
theorem c1_yes {p r s : Int} (h : p = r ∨ p = s) : c1C p r s = 1 ∧ n1N p r s = p := by simp [c1C, n1N, h]
theorem c1_no {p r s : Int} (h : ¬ (p = r ∨ p = s)) : c1C p r s = 0 ∧ n1N p r s = 0 := by simp [c1C, n1N, h]

set_option maxRecDepth 100000 in
set_option maxHeartbeats 4000000 in
theorem l28Common_two (kind wd len wd' len' : Int) (p q r s : Int) (sx sy : Value) (w : World) (h : IntSl w sx [p, q]) (h' : IntSl w sy [r, s]) :
    Calls Try.prog 87 #[.agg #[.int .i64 kind, sx, .int .i64 wd, .int .i64 len], .agg #[.int .i64 kind, sy, .int .i64 wd', .int .i64 len']] w fun e w' => e = .returned (.tuple #[.int .i64 (comC p q r s), .int .i64 (comN p q r s)]) ∧ Below w.heap.size w w' := by
  obtain ⟨b, off, cap, rfl, c0, c1, hbx⟩ := h.two
  obtain ⟨b', off', cap', rfl, d0, d1, hby⟩ := h'.two
  have HF := Lib.hid (fun w => l28First_any kind wd len (some ⟨b, off, none⟩) 0 cap (by omega) w)
  clear h h'
  have HC := Lib.hid (comC_eq p q r s)
  have HN := Lib.hid (comN_eq p q r s)
  generalize comC p q r s = cc at *
  generalize comN p q r s = cn at *
  go_enter Try.func87, Try.ntmps87
  go_wp2_with fail
  refine (HF.out _).mono ?_
  rintro e w1 ⟨rfl, hb1⟩
  have k0 : Blk w1 w.heap.size #[.int .i64 kind, .slice (some ⟨b, off, none⟩) 2 cap, .int .i64 wd, .int .i64 len] 46 := (by ((repeat (first | (with_reducible assumption) | (with_reducible refine Blk.drewN ?_ _) | (with_reducible refine Blk.drew ?_) | ((with_reducible refine Blk.new _ ?_); focus (first | omega | (simp; done) | (simp; omega))) | (with_reducible refine Blk.past ?_ _) | ((with_reducible refine Blk.apart ?_ _ _ _ ?_); rotate_left; focus (first | omega | (simp; done) | (simp; omega))) | (with_reducible refine Blk.by (by assumption) ?_))); done))
  have k1 : Blk w1 (w.heap.size + 1) #[.int .i64 kind, .slice (some ⟨b', off', none⟩) 2 cap', .int .i64 wd', .int .i64 len'] 46 := (by ((repeat (first | (with_reducible assumption) | (with_reducible refine Blk.drewN ?_ _) | (with_reducible refine Blk.drew ?_) | ((with_reducible refine Blk.new _ ?_); focus (first | omega | (simp; done) | (simp; omega))) | (with_reducible refine Blk.past ?_ _) | ((with_reducible refine Blk.apart ?_ _ _ _ ?_); rotate_left; focus (first | omega | (simp; done) | (simp; omega))) | (with_reducible refine Blk.by (by assumption) ?_))); done))
  have hW : Below w.heap.size w w1 := (by ((repeat (first | (with_reducible exact Below.refl _ _) | (with_reducible refine below_drewN ?_ _) | (with_reducible refine Below.drew ?_) | (with_reducible refine below_al ?_ _) | (with_reducible refine below_on (by assumption) ?_) | ((with_reducible refine Below.setCell ?_ ?_ _); rotate_left; focus (first | omega | (simp; done) | (simp; omega))) | (with_reducible assumption))); done))
  have e0 := k0.cell
  have e1 := k1.cell
  clear hb1
  go_wp2
  go_loopw [7, 8, 9] (fun c m i wr => ((i = .int .i64 0 ∧ c = .int .i64 0 ∧ m = .int .i64 0) ∨ (i = .int .i64 1 ∧ c = .int .i64 (c1C p r s) ∧ m = .int .i64 (n1N p r s)) ∨ (i = .int .i64 2 ∧ c = .int .i64 cc ∧ m = .int .i64 cn)) ∧ Blk wr w.heap.size #[.int .i64 kind, .slice (some ⟨b, off, none⟩) 2 cap, .int .i64 wd, .int .i64 len] 46 ∧ Blk wr (w.heap.size + 1) #[.int .i64 kind, .slice (some ⟨b', off', none⟩) 2 cap', .int .i64 wd', .int .i64 len'] 46 ∧ Below w.heap.size w wr) (fun _ _ i _ => (2 - intOf i).toNat)
  case atStart => exact ⟨.inl ⟨rfl, rfl, rfl⟩, k0, k1, hW⟩
  case round =>
    clear k0 k1 hW e0 e1
    obtain ⟨hcase, k0, k1, hb⟩ := hrel
    have e0 := k0.cell
    have e1 := k1.cell
    have u0 := cell_by' hb c0
    have v0 := cell_by' hb d0
    have u1 := cell_by' hb c1
    have v1 := cell_by' hb d1
    rcases hcase with ⟨rfl, rfl, rfl⟩ | ⟨rfl, rfl, rfl⟩ | ⟨rfl, rfl, rfl⟩
    · have z1 : (0 : Int) ≤ 0 := by omega
      by_cases h1 : p = r
      · have HO := Lib.hid (show p = r ∨ p = s from .inl h1)
        have HY := Lib.hid (c1_yes HO.out)
        have h1' : (p == r) = true := by simpa using h1
        clear h1
        go_wp2
        go_quiet (fail)
        go_wp2
        exact ⟨⟨.inr (.inl ⟨rfl, by rw [HY.out.1], by rw [HY.out.2]⟩), (by ((repeat (first | (with_reducible assumption) | (with_reducible refine Blk.drewN ?_ _) | (with_reducible refine Blk.drew ?_) | ((with_reducible refine Blk.new _ ?_); focus (first | omega | (simp; done) | (simp; omega))) | (with_reducible refine Blk.past ?_ _) | ((with_reducible refine Blk.apart ?_ _ _ _ ?_); rotate_left; focus (first | omega | (simp; done) | (simp; omega))) | (with_reducible refine Blk.by (by assumption) ?_))); done)), (by ((repeat (first | (with_reducible assumption) | (with_reducible refine Blk.drewN ?_ _) | (with_reducible refine Blk.drew ?_) | ((with_reducible refine Blk.new _ ?_); focus (first | omega | (simp; done) | (simp; omega))) | (with_reducible refine Blk.past ?_ _) | ((with_reducible refine Blk.apart ?_ _ _ _ ?_); rotate_left; focus (first | omega | (simp; done) | (simp; omega))) | (with_reducible refine Blk.by (by assumption) ?_))); done)), (by ((repeat (first | (with_reducible exact Below.refl _ _) | (with_reducible refine below_drewN ?_ _) | (with_reducible refine Below.drew ?_) | (with_reducible refine below_al ?_ _) | (with_reducible refine below_on (by assumption) ?_) | ((with_reducible refine Below.setCell ?_ ?_ _); rotate_left; focus (first | omega | (simp; done) | (simp; omega))) | (with_reducible assumption))); done))⟩, by simp [intOf]⟩
      · have h1' : (p == r) = false := by simpa using h1
        by_cases h2 : p = s
        · have HO := Lib.hid (show p = r ∨ p = s from .inr h2)
          have HY := Lib.hid (c1_yes HO.out)
          have h2' : (p == s) = true := by simpa using h2
          clear h1 h2
          go_wp2
          go_quiet (fail)
          go_wp2
          exact ⟨⟨.inr (.inl ⟨rfl, by rw [HY.out.1], by rw [HY.out.2]⟩), (by ((repeat (first | (with_reducible assumption) | (with_reducible refine Blk.drewN ?_ _) | (with_reducible refine Blk.drew ?_) | ((with_reducible refine Blk.new _ ?_); focus (first | omega | (simp; done) | (simp; omega))) | (with_reducible refine Blk.past ?_ _) | ((with_reducible refine Blk.apart ?_ _ _ _ ?_); rotate_left; focus (first | omega | (simp; done) | (simp; omega))) | (with_reducible refine Blk.by (by assumption) ?_))); done)), (by ((repeat (first | (with_reducible assumption) | (with_reducible refine Blk.drewN ?_ _) | (with_reducible refine Blk.drew ?_) | ((with_reducible refine Blk.new _ ?_); focus (first | omega | (simp; done) | (simp; omega))) | (with_reducible refine Blk.past ?_ _) | ((with_reducible refine Blk.apart ?_ _ _ _ ?_); rotate_left; focus (first | omega | (simp; done) | (simp; omega))) | (with_reducible refine Blk.by (by assumption) ?_))); done)), (by ((repeat (first | (with_reducible exact Below.refl _ _) | (with_reducible refine below_drewN ?_ _) | (with_reducible refine Below.drew ?_) | (with_reducible refine below_al ?_ _) | (with_reducible refine below_on (by assumption) ?_) | ((with_reducible refine Below.setCell ?_ ?_ _); rotate_left; focus (first | omega | (simp; done) | (simp; omega))) | (with_reducible assumption))); done))⟩, by simp [intOf]⟩
        · have h2' : (p == s) = false := by simpa using h2
          have HO := Lib.hid (show ¬ (p = r ∨ p = s) from fun h => h.elim h1 h2)
          have HY := Lib.hid (c1_no HO.out)
          clear h1 h2
          go_wp2
          go_quiet (fail)
          go_wp2
          exact ⟨⟨.inr (.inl ⟨rfl, by rw [HY.out.1], by rw [HY.out.2]⟩), (by ((repeat (first | (with_reducible assumption) | (with_reducible refine Blk.drewN ?_ _) | (with_reducible refine Blk.drew ?_) | ((with_reducible refine Blk.new _ ?_); focus (first | omega | (simp; done) | (simp; omega))) | (with_reducible refine Blk.past ?_ _) | ((with_reducible refine Blk.apart ?_ _ _ _ ?_); rotate_left; focus (first | omega | (simp; done) | (simp; omega))) | (with_reducible refine Blk.by (by assumption) ?_))); done)), (by ((repeat (first | (with_reducible assumption) | (with_reducible refine Blk.drewN ?_ _) | (with_reducible refine Blk.drew ?_) | ((with_reducible refine Blk.new _ ?_); focus (first | omega | (simp; done) | (simp; omega))) | (with_reducible refine Blk.past ?_ _) | ((with_reducible refine Blk.apart ?_ _ _ _ ?_); rotate_left; focus (first | omega | (simp; done) | (simp; omega))) | (with_reducible refine Blk.by (by assumption) ?_))); done)), (by ((repeat (first | (with_reducible exact Below.refl _ _) | (with_reducible refine below_drewN ?_ _) | (with_reducible refine Below.drew ?_) | (with_reducible refine below_al ?_ _) | (with_reducible refine below_on (by assumption) ?_) | ((with_reducible refine Below.setCell ?_ ?_ _); rotate_left; focus (first | omega | (simp; done) | (simp; omega))) | (with_reducible assumption))); done))⟩, by simp [intOf]⟩
    · have z1 : (0 : Int) ≤ 0 := by omega
      have hcb := comC_bd p r s
      by_cases h1 : q = r
      · have HO := Lib.hid (show q = r ∨ q = s from .inl h1)
        have HY := Lib.hid (c1_yes HO.out)
        have h1' : (q == r) = true := by simpa using h1
        clear h1
        go_wp2
        go_quiet (fail)
        go_wp2
        exact ⟨⟨.inr (.inr ⟨rfl, by rw [HC.out, HY.out.1], by rw [HN.out, if_pos HO.out]⟩), (by ((repeat (first | (with_reducible assumption) | (with_reducible refine Blk.drewN ?_ _) | (with_reducible refine Blk.drew ?_) | ((with_reducible refine Blk.new _ ?_); focus (first | omega | (simp; done) | (simp; omega))) | (with_reducible refine Blk.past ?_ _) | ((with_reducible refine Blk.apart ?_ _ _ _ ?_); rotate_left; focus (first | omega | (simp; done) | (simp; omega))) | (with_reducible refine Blk.by (by assumption) ?_))); done)), (by ((repeat (first | (with_reducible assumption) | (with_reducible refine Blk.drewN ?_ _) | (with_reducible refine Blk.drew ?_) | ((with_reducible refine Blk.new _ ?_); focus (first | omega | (simp; done) | (simp; omega))) | (with_reducible refine Blk.past ?_ _) | ((with_reducible refine Blk.apart ?_ _ _ _ ?_); rotate_left; focus (first | omega | (simp; done) | (simp; omega))) | (with_reducible refine Blk.by (by assumption) ?_))); done)), (by ((repeat (first | (with_reducible exact Below.refl _ _) | (with_reducible refine below_drewN ?_ _) | (with_reducible refine Below.drew ?_) | (with_reducible refine below_al ?_ _) | (with_reducible refine below_on (by assumption) ?_) | ((with_reducible refine Below.setCell ?_ ?_ _); rotate_left; focus (first | omega | (simp; done) | (simp; omega))) | (with_reducible assumption))); done))⟩, by simp [intOf]⟩
      · have h1' : (q == r) = false := by simpa using h1
        by_cases h2 : q = s
        · have HO := Lib.hid (show q = r ∨ q = s from .inr h2)
          have HY := Lib.hid (c1_yes HO.out)
          have h2' : (q == s) = true := by simpa using h2
          clear h1 h2
          go_wp2
          go_quiet (fail)
          go_wp2
          exact ⟨⟨.inr (.inr ⟨rfl, by rw [HC.out, HY.out.1], by rw [HN.out, if_pos HO.out]⟩), (by ((repeat (first | (with_reducible assumption) | (with_reducible refine Blk.drewN ?_ _) | (with_reducible refine Blk.drew ?_) | ((with_reducible refine Blk.new _ ?_); focus (first | omega | (simp; done) | (simp; omega))) | (with_reducible refine Blk.past ?_ _) | ((with_reducible refine Blk.apart ?_ _ _ _ ?_); rotate_left; focus (first | omega | (simp; done) | (simp; omega))) | (with_reducible refine Blk.by (by assumption) ?_))); done)), (by ((repeat (first | (with_reducible assumption) | (with_reducible refine Blk.drewN ?_ _) | (with_reducible refine Blk.drew ?_) | ((with_reducible refine Blk.new _ ?_); focus (first | omega | (simp; done) | (simp; omega))) | (with_reducible refine Blk.past ?_ _) | ((with_reducible refine Blk.apart ?_ _ _ _ ?_); rotate_left; focus (first | omega | (simp; done) | (simp; omega))) | (with_reducible refine Blk.by (by assumption) ?_))); done)), (by ((repeat (first | (with_reducible exact Below.refl _ _) | (with_reducible refine below_drewN ?_ _) | (with_reducible refine Below.drew ?_) | (with_reducible refine below_al ?_ _) | (with_reducible refine below_on (by assumption) ?_) | ((with_reducible refine Below.setCell ?_ ?_ _); rotate_left; focus (first | omega | (simp; done) | (simp; omega))) | (with_reducible assumption))); done))⟩, by simp [intOf]⟩
        · have h2' : (q == s) = false := by simpa using h2
          have HO := Lib.hid (show ¬ (q = r ∨ q = s) from fun h => h.elim h1 h2)
          have HY := Lib.hid (c1_no HO.out)
          clear h1 h2
          go_wp2
          go_quiet (fail)
          go_wp2
          exact ⟨⟨.inr (.inr ⟨rfl, by rw [HC.out, HY.out.1]; simp, by rw [HN.out, if_neg HO.out]⟩), (by ((repeat (first | (with_reducible assumption) | (with_reducible refine Blk.drewN ?_ _) | (with_reducible refine Blk.drew ?_) | ((with_reducible refine Blk.new _ ?_); focus (first | omega | (simp; done) | (simp; omega))) | (with_reducible refine Blk.past ?_ _) | ((with_reducible refine Blk.apart ?_ _ _ _ ?_); rotate_left; focus (first | omega | (simp; done) | (simp; omega))) | (with_reducible refine Blk.by (by assumption) ?_))); done)), (by ((repeat (first | (with_reducible assumption) | (with_reducible refine Blk.drewN ?_ _) | (with_reducible refine Blk.drew ?_) | ((with_reducible refine Blk.new _ ?_); focus (first | omega | (simp; done) | (simp; omega))) | (with_reducible refine Blk.past ?_ _) | ((with_reducible refine Blk.apart ?_ _ _ _ ?_); rotate_left; focus (first | omega | (simp; done) | (simp; omega))) | (with_reducible refine Blk.by (by assumption) ?_))); done)), (by ((repeat (first | (with_reducible exact Below.refl _ _) | (with_reducible refine below_drewN ?_ _) | (with_reducible refine Below.drew ?_) | (with_reducible refine below_al ?_ _) | (with_reducible refine below_on (by assumption) ?_) | ((with_reducible refine Below.setCell ?_ ?_ _); rotate_left; focus (first | omega | (simp; done) | (simp; omega))) | (with_reducible assumption))); done))⟩, by simp [intOf]⟩
    · go_wp2
      go_ret2
      exact ⟨rfl, hb⟩

set_option maxRecDepth 100000 in
set_option maxHeartbeats 4000000 in
theorem l28Common_three (kind wd len wd' len' : Int) (g p q f r s : Int) (sx sy : Value) (w : World) (h : IntSl w sx [g, p, q]) (h' : IntSl w sy [f, r, s]) :
    Calls Try.prog 87 #[.agg #[.int .i64 kind, sx, .int .i64 wd, .int .i64 len], .agg #[.int .i64 kind, sy, .int .i64 wd', .int .i64 len']] w fun e w' => e = .returned (.tuple #[.int .i64 (comC p q r s), .int .i64 (comN p q r s)]) ∧ Below w.heap.size w w' := by
  obtain ⟨b, off, cap, rfl, c0, c1, c2, hbx⟩ := h.three
  obtain ⟨b', off', cap', rfl, d0, d1, d2, hby⟩ := h'.three
  have HF := Lib.hid (fun w => l28First_any kind wd len (some ⟨b, off, none⟩) 1 cap (by omega) w)
  clear h h'
  have HC := Lib.hid (comC_eq p q r s)
  have HN := Lib.hid (comN_eq p q r s)
  generalize comC p q r s = cc at *
  generalize comN p q r s = cn at *
  go_enter Try.func87, Try.ntmps87
  go_wp2_with fail
  refine (HF.out _).mono ?_
  rintro e w1 ⟨rfl, hb1⟩
  have k0 : Blk w1 w.heap.size #[.int .i64 kind, .slice (some ⟨b, off, none⟩) 3 cap, .int .i64 wd, .int .i64 len] 46 := (by ((repeat (first | (with_reducible assumption) | (with_reducible refine Blk.drewN ?_ _) | (with_reducible refine Blk.drew ?_) | ((with_reducible refine Blk.new _ ?_); focus (first | omega | (simp; done) | (simp; omega))) | (with_reducible refine Blk.past ?_ _) | ((with_reducible refine Blk.apart ?_ _ _ _ ?_); rotate_left; focus (first | omega | (simp; done) | (simp; omega))) | (with_reducible refine Blk.by (by assumption) ?_))); done))
  have k1 : Blk w1 (w.heap.size + 1) #[.int .i64 kind, .slice (some ⟨b', off', none⟩) 3 cap', .int .i64 wd', .int .i64 len'] 46 := (by ((repeat (first | (with_reducible assumption) | (with_reducible refine Blk.drewN ?_ _) | (with_reducible refine Blk.drew ?_) | ((with_reducible refine Blk.new _ ?_); focus (first | omega | (simp; done) | (simp; omega))) | (with_reducible refine Blk.past ?_ _) | ((with_reducible refine Blk.apart ?_ _ _ _ ?_); rotate_left; focus (first | omega | (simp; done) | (simp; omega))) | (with_reducible refine Blk.by (by assumption) ?_))); done))
  have hW : Below w.heap.size w w1 := (by ((repeat (first | (with_reducible exact Below.refl _ _) | (with_reducible refine below_drewN ?_ _) | (with_reducible refine Below.drew ?_) | (with_reducible refine below_al ?_ _) | (with_reducible refine below_on (by assumption) ?_) | ((with_reducible refine Below.setCell ?_ ?_ _); rotate_left; focus (first | omega | (simp; done) | (simp; omega))) | (with_reducible assumption))); done))
  have e0 := k0.cell
  have e1 := k1.cell
  clear hb1
  go_wp2
  go_loopw [7, 8, 9] (fun c m i wr => ((i = .int .i64 1 ∧ c = .int .i64 0 ∧ m = .int .i64 0) ∨ (i = .int .i64 2 ∧ c = .int .i64 (c1C p r s) ∧ m = .int .i64 (n1N p r s)) ∨ (i = .int .i64 3 ∧ c = .int .i64 cc ∧ m = .int .i64 cn)) ∧ Blk wr w.heap.size #[.int .i64 kind, .slice (some ⟨b, off, none⟩) 3 cap, .int .i64 wd, .int .i64 len] 46 ∧ Blk wr (w.heap.size + 1) #[.int .i64 kind, .slice (some ⟨b', off', none⟩) 3 cap', .int .i64 wd', .int .i64 len'] 46 ∧ Below w.heap.size w wr) (fun _ _ i _ => (3 - intOf i).toNat)
  case atStart => exact ⟨.inl ⟨rfl, rfl, rfl⟩, k0, k1, hW⟩
  case round =>
    clear k0 k1 hW e0 e1
    obtain ⟨hcase, k0, k1, hb⟩ := hrel
    have e0 := k0.cell
    have e1 := k1.cell
    have u0 := cell_by' hb c0
    have v0 := cell_by' hb d0
    have u1 := cell_by' hb c1
    have v1 := cell_by' hb d1
    have u2 := cell_by' hb c2
    have v2 := cell_by' hb d2
    rcases hcase with ⟨rfl, rfl, rfl⟩ | ⟨rfl, rfl, rfl⟩ | ⟨rfl, rfl, rfl⟩
    · have z1 : (1 : Int) ≤ 1 := by omega
      by_cases h1 : p = r
      · have HO := Lib.hid (show p = r ∨ p = s from .inl h1)
        have HY := Lib.hid (c1_yes HO.out)
        have h1' : (p == r) = true := by simpa using h1
        clear h1
        go_wp2
        go_quiet (fail)
        go_wp2
        exact ⟨⟨.inr (.inl ⟨rfl, by rw [HY.out.1], by rw [HY.out.2]⟩), (by ((repeat (first | (with_reducible assumption) | (with_reducible refine Blk.drewN ?_ _) | (with_reducible refine Blk.drew ?_) | ((with_reducible refine Blk.new _ ?_); focus (first | omega | (simp; done) | (simp; omega))) | (with_reducible refine Blk.past ?_ _) | ((with_reducible refine Blk.apart ?_ _ _ _ ?_); rotate_left; focus (first | omega | (simp; done) | (simp; omega))) | (with_reducible refine Blk.by (by assumption) ?_))); done)), (by ((repeat (first | (with_reducible assumption) | (with_reducible refine Blk.drewN ?_ _) | (with_reducible refine Blk.drew ?_) | ((with_reducible refine Blk.new _ ?_); focus (first | omega | (simp; done) | (simp; omega))) | (with_reducible refine Blk.past ?_ _) | ((with_reducible refine Blk.apart ?_ _ _ _ ?_); rotate_left; focus (first | omega | (simp; done) | (simp; omega))) | (with_reducible refine Blk.by (by assumption) ?_))); done)), (by ((repeat (first | (with_reducible exact Below.refl _ _) | (with_reducible refine below_drewN ?_ _) | (with_reducible refine Below.drew ?_) | (with_reducible refine below_al ?_ _) | (with_reducible refine below_on (by assumption) ?_) | ((with_reducible refine Below.setCell ?_ ?_ _); rotate_left; focus (first | omega | (simp; done) | (simp; omega))) | (with_reducible assumption))); done))⟩, by simp [intOf]⟩
      · have h1' : (p == r) = false := by simpa using h1
        by_cases h2 : p = s
        · have HO := Lib.hid (show p = r ∨ p = s from .inr h2)
          have HY := Lib.hid (c1_yes HO.out)
          have h2' : (p == s) = true := by simpa using h2
          clear h1 h2
          go_wp2
          go_quiet (fail)
          go_wp2
          exact ⟨⟨.inr (.inl ⟨rfl, by rw [HY.out.1], by rw [HY.out.2]⟩), (by ((repeat (first | (with_reducible assumption) | (with_reducible refine Blk.drewN ?_ _) | (with_reducible refine Blk.drew ?_) | ((with_reducible refine Blk.new _ ?_); focus (first | omega | (simp; done) | (simp; omega))) | (with_reducible refine Blk.past ?_ _) | ((with_reducible refine Blk.apart ?_ _ _ _ ?_); rotate_left; focus (first | omega | (simp; done) | (simp; omega))) | (with_reducible refine Blk.by (by assumption) ?_))); done)), (by ((repeat (first | (with_reducible assumption) | (with_reducible refine Blk.drewN ?_ _) | (with_reducible refine Blk.drew ?_) | ((with_reducible refine Blk.new _ ?_); focus (first | omega | (simp; done) | (simp; omega))) | (with_reducible refine Blk.past ?_ _) | ((with_reducible refine Blk.apart ?_ _ _ _ ?_); rotate_left; focus (first | omega | (simp; done) | (simp; omega))) | (with_reducible refine Blk.by (by assumption) ?_))); done)), (by ((repeat (first | (with_reducible exact Below.refl _ _) | (with_reducible refine below_drewN ?_ _) | (with_reducible refine Below.drew ?_) | (with_reducible refine below_al ?_ _) | (with_reducible refine below_on (by assumption) ?_) | ((with_reducible refine Below.setCell ?_ ?_ _); rotate_left; focus (first | omega | (simp; done) | (simp; omega))) | (with_reducible assumption))); done))⟩, by simp [intOf]⟩
        · have h2' : (p == s) = false := by simpa using h2
          have HO := Lib.hid (show ¬ (p = r ∨ p = s) from fun h => h.elim h1 h2)
          have HY := Lib.hid (c1_no HO.out)
          clear h1 h2
          go_wp2
          go_quiet (fail)
          go_wp2
          exact ⟨⟨.inr (.inl ⟨rfl, by rw [HY.out.1], by rw [HY.out.2]⟩), (by ((repeat (first | (with_reducible assumption) | (with_reducible refine Blk.drewN ?_ _) | (with_reducible refine Blk.drew ?_) | ((with_reducible refine Blk.new _ ?_); focus (first | omega | (simp; done) | (simp; omega))) | (with_reducible refine Blk.past ?_ _) | ((with_reducible refine Blk.apart ?_ _ _ _ ?_); rotate_left; focus (first | omega | (simp; done) | (simp; omega))) | (with_reducible refine Blk.by (by assumption) ?_))); done)), (by ((repeat (first | (with_reducible assumption) | (with_reducible refine Blk.drewN ?_ _) | (with_reducible refine Blk.drew ?_) | ((with_reducible refine Blk.new _ ?_); focus (first | omega | (simp; done) | (simp; omega))) | (with_reducible refine Blk.past ?_ _) | ((with_reducible refine Blk.apart ?_ _ _ _ ?_); rotate_left; focus (first | omega | (simp; done) | (simp; omega))) | (with_reducible refine Blk.by (by assumption) ?_))); done)), (by ((repeat (first | (with_reducible exact Below.refl _ _) | (with_reducible refine below_drewN ?_ _) | (with_reducible refine Below.drew ?_) | (with_reducible refine below_al ?_ _) | (with_reducible refine below_on (by assumption) ?_) | ((with_reducible refine Below.setCell ?_ ?_ _); rotate_left; focus (first | omega | (simp; done) | (simp; omega))) | (with_reducible assumption))); done))⟩, by simp [intOf]⟩
    · have z1 : (1 : Int) ≤ 1 := by omega
      have hcb := comC_bd p r s
      by_cases h1 : q = r
      · have HO := Lib.hid (show q = r ∨ q = s from .inl h1)
        have HY := Lib.hid (c1_yes HO.out)
        have h1' : (q == r) = true := by simpa using h1
        clear h1
        go_wp2
        go_quiet (fail)
        go_wp2
        exact ⟨⟨.inr (.inr ⟨rfl, by rw [HC.out, HY.out.1], by rw [HN.out, if_pos HO.out]⟩), (by ((repeat (first | (with_reducible assumption) | (with_reducible refine Blk.drewN ?_ _) | (with_reducible refine Blk.drew ?_) | ((with_reducible refine Blk.new _ ?_); focus (first | omega | (simp; done) | (simp; omega))) | (with_reducible refine Blk.past ?_ _) | ((with_reducible refine Blk.apart ?_ _ _ _ ?_); rotate_left; focus (first | omega | (simp; done) | (simp; omega))) | (with_reducible refine Blk.by (by assumption) ?_))); done)), (by ((repeat (first | (with_reducible assumption) | (with_reducible refine Blk.drewN ?_ _) | (with_reducible refine Blk.drew ?_) | ((with_reducible refine Blk.new _ ?_); focus (first | omega | (simp; done) | (simp; omega))) | (with_reducible refine Blk.past ?_ _) | ((with_reducible refine Blk.apart ?_ _ _ _ ?_); rotate_left; focus (first | omega | (simp; done) | (simp; omega))) | (with_reducible refine Blk.by (by assumption) ?_))); done)), (by ((repeat (first | (with_reducible exact Below.refl _ _) | (with_reducible refine below_drewN ?_ _) | (with_reducible refine Below.drew ?_) | (with_reducible refine below_al ?_ _) | (with_reducible refine below_on (by assumption) ?_) | ((with_reducible refine Below.setCell ?_ ?_ _); rotate_left; focus (first | omega | (simp; done) | (simp; omega))) | (with_reducible assumption))); done))⟩, by simp [intOf]⟩
      · have h1' : (q == r) = false := by simpa using h1
        by_cases h2 : q = s
        · have HO := Lib.hid (show q = r ∨ q = s from .inr h2)
          have HY := Lib.hid (c1_yes HO.out)
          have h2' : (q == s) = true := by simpa using h2
          clear h1 h2
          go_wp2
          go_quiet (fail)
          go_wp2
          exact ⟨⟨.inr (.inr ⟨rfl, by rw [HC.out, HY.out.1], by rw [HN.out, if_pos HO.out]⟩), (by ((repeat (first | (with_reducible assumption) | (with_reducible refine Blk.drewN ?_ _) | (with_reducible refine Blk.drew ?_) | ((with_reducible refine Blk.new _ ?_); focus (first | omega | (simp; done) | (simp; omega))) | (with_reducible refine Blk.past ?_ _) | ((with_reducible refine Blk.apart ?_ _ _ _ ?_); rotate_left; focus (first | omega | (simp; done) | (simp; omega))) | (with_reducible refine Blk.by (by assumption) ?_))); done)), (by ((repeat (first | (with_reducible assumption) | (with_reducible refine Blk.drewN ?_ _) | (with_reducible refine Blk.drew ?_) | ((with_reducible refine Blk.new _ ?_); focus (first | omega | (simp; done) | (simp; omega))) | (with_reducible refine Blk.past ?_ _) | ((with_reducible refine Blk.apart ?_ _ _ _ ?_); rotate_left; focus (first | omega | (simp; done) | (simp; omega))) | (with_reducible refine Blk.by (by assumption) ?_))); done)), (by ((repeat (first | (with_reducible exact Below.refl _ _) | (with_reducible refine below_drewN ?_ _) | (with_reducible refine Below.drew ?_) | (with_reducible refine below_al ?_ _) | (with_reducible refine below_on (by assumption) ?_) | ((with_reducible refine Below.setCell ?_ ?_ _); rotate_left; focus (first | omega | (simp; done) | (simp; omega))) | (with_reducible assumption))); done))⟩, by simp [intOf]⟩
        · have h2' : (q == s) = false := by simpa using h2
          have HO := Lib.hid (show ¬ (q = r ∨ q = s) from fun h => h.elim h1 h2)
          have HY := Lib.hid (c1_no HO.out)
          clear h1 h2
          go_wp2
          go_quiet (fail)
          go_wp2
          exact ⟨⟨.inr (.inr ⟨rfl, by rw [HC.out, HY.out.1]; simp, by rw [HN.out, if_neg HO.out]⟩), (by ((repeat (first | (with_reducible assumption) | (with_reducible refine Blk.drewN ?_ _) | (with_reducible refine Blk.drew ?_) | ((with_reducible refine Blk.new _ ?_); focus (first | omega | (simp; done) | (simp; omega))) | (with_reducible refine Blk.past ?_ _) | ((with_reducible refine Blk.apart ?_ _ _ _ ?_); rotate_left; focus (first | omega | (simp; done) | (simp; omega))) | (with_reducible refine Blk.by (by assumption) ?_))); done)), (by ((repeat (first | (with_reducible assumption) | (with_reducible refine Blk.drewN ?_ _) | (with_reducible refine Blk.drew ?_) | ((with_reducible refine Blk.new _ ?_); focus (first | omega | (simp; done) | (simp; omega))) | (with_reducible refine Blk.past ?_ _) | ((with_reducible refine Blk.apart ?_ _ _ _ ?_); rotate_left; focus (first | omega | (simp; done) | (simp; omega))) | (with_reducible refine Blk.by (by assumption) ?_))); done)), (by ((repeat (first | (with_reducible exact Below.refl _ _) | (with_reducible refine below_drewN ?_ _) | (with_reducible refine Below.drew ?_) | (with_reducible refine below_al ?_ _) | (with_reducible refine below_on (by assumption) ?_) | ((with_reducible refine Below.setCell ?_ ?_ _); rotate_left; focus (first | omega | (simp; done) | (simp; omega))) | (with_reducible assumption))); done))⟩, by simp [intOf]⟩
    · go_wp2
      go_ret2
      exact ⟨rfl, hb⟩

theorem l28Common_any (x y : Dv) (s t : Value) (w : World) (h : IntSl w s x.pins) (h' : IntSl w t y.pins) (hs : Shp x) (ht : Shp y) (hk : x.kind = y.kind) :
    Calls Try.prog 87 #[.agg #[.int .i64 x.kind, s, .int .i64 x.wd, .int .i64 x.len], .agg #[.int .i64 y.kind, t, .int .i64 y.wd, .int .i64 y.len]] w fun e w' => e = .returned (.tuple #[.int .i64 (comC (curP x.pins) (curQ x.pins) (curP y.pins) (curQ y.pins)), .int .i64 (serN x y)]) ∧ Below w.heap.size w w' := by
  obtain ⟨kind, pins, wd, len⟩ := x
  obtain ⟨kind', pins', wd', len'⟩ := y
  dsimp only at h h' hk
  subst hk
  rcases hs with ⟨k2, p, q, hp⟩ | ⟨k2, g, p, q, hp⟩ <;> rcases ht with ⟨k3, r, s', hr⟩ | ⟨k3, f, r, s', hr⟩
  · dsimp only at hp hr; subst hp hr
    exact l28Common_two kind wd len wd' len' p q r s' s t w h h'
  · dsimp only at k2 k3; omega
  · dsimp only at k2 k3; omega
  · dsimp only at hp hr; subst hp hr
    exact l28Common_three kind wd len wd' len' g p q f r s' s t w h h'
end Go.Proofs.Ytnchhdhlhlcejaa
