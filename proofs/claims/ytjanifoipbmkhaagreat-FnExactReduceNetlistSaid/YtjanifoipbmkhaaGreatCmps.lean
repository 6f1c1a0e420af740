/- Comparing numbers, lists of numbers and devices: the plain functions, and the contracts of both packages' and the library's. -/
import Derived.Test.YtjanifoipbmkhaaGreatBase
import Derived.Test.YtjanifoipbmkhaaGreatDevs
namespace Go.Proofs.YtjanifoipbmkhaaGreat
open Go.RowKit
set_option linter.unusedVariables false
set_option linter.unusedSimpArgs false

/-- Some draws later. -/
def Dr (w w' : World) : Prop := ∃ n, w' = w.drewN n
theorem Dr.refl (w : World) : Dr w w := ⟨0, rfl⟩
theorem Dr.drewN {w w' : World} (h : Dr w w') (m : Nat) : Dr w (w'.drewN m) := by obtain ⟨n, rfl⟩ := h; exact ⟨n + m, World.drewN_drewN _ _ _⟩
theorem Dr.cell {w w' : World} (h : Dr w w') (p : Addr) : w'.cell? p = w.cell? p := by obtain ⟨n, rfl⟩ := h; rfl
theorem Dr.out {w w' : World} (h : Dr w w') : ∃ n, w' = w.drewN n := h

def sgn (a b : Int) : Int := if a < b then -1 else if b < a then 1 else 0
def lcmp : List Int → List Int → Int
  | [], [] => 0
  | [], _ :: _ => -1
  | _ :: _, [] => 1
  | a :: r, b :: s => if sgn a b = 0 then lcmp r s else sgn a b
def or2 (a b : Int) : Int := if a = 0 then b else a
def devcmp (k1 k2 : Int) (p1 p2 : List Int) (w1 w2 l1 l2 : Int) : Int := or2 (sgn k1 k2) (or2 (lcmp p1 p2) (or2 (sgn w1 w2) (sgn l1 l2)))

theorem sgn_bd (a b : Int) : -1 ≤ sgn a b ∧ sgn a b ≤ 1 := by unfold sgn; split <;> (try split) <;> omega
theorem sgn_lt {a b : Int} (h : a < b) : sgn a b = -1 := by simp [sgn, h]
theorem sgn_gt {a b : Int} (h : b < a) : sgn a b = 1 := by
  have : ¬ a < b := by omega
  simp [sgn, h, this]
theorem sgn_eq {a b : Int} (h : a = b) : sgn a b = 0 := by subst h; simp [sgn]
theorem lcmp_bd : ∀ (a b : List Int), -1 ≤ lcmp a b ∧ lcmp a b ≤ 1
  | [], [] => by simp [lcmp]
  | [], _ :: _ => by simp [lcmp]
  | _ :: _, [] => by simp [lcmp]
  | a :: r, b :: s => by
    unfold lcmp
    split
    · exact lcmp_bd r s
    · exact sgn_bd a b
theorem drop_of {l : List Int} {k : Nat} {x : Int} (h : l[k]? = some x) : l.drop k = x :: l.drop (k + 1) := by
  obtain ⟨hlt, e⟩ := List.getElem?_eq_some_iff.1 h
  rw [List.drop_eq_getElem_cons hlt, e]
theorem lcmp_step {a b : List Int} {k : Nat} {x y : Int} (hx : a[k]? = some x) (hy : b[k]? = some y) : lcmp (a.drop k) (b.drop k) = if sgn x y = 0 then lcmp (a.drop (k + 1)) (b.drop (k + 1)) else sgn x y := by
  rw [drop_of hx, drop_of hy]; rfl
theorem lcmp_end1 {a b : List Int} {k : Nat} (ha : a.length ≤ k) : lcmp (a.drop k) (b.drop k) = if k < b.length then -1 else 0 := by
  rw [List.drop_eq_nil_of_le ha]
  split
  · rename_i h
    rw [List.drop_eq_getElem_cons h]; rfl
  · rw [List.drop_eq_nil_of_le (by omega)]; rfl
theorem lcmp_end2 {a b : List Int} {k : Nat} (ha : k < a.length) (hb : b.length ≤ k) : lcmp (a.drop k) (b.drop k) = 1 := by
  rw [List.drop_eq_nil_of_le hb, List.drop_eq_getElem_cons ha]; rfl

/-- A slice's cells, under an index's condition. -/
theorem IntSl.cells {w : World} {a : Option Addr} {n c : Nat} {zs : List Int} (h : IntSl w (.slice a n c) zs) : n = zs.length ∧ ∀ (i : Nat) (x : Int), zs[i]? = some x → ∃ b off, a = some ⟨b, off, none⟩ ∧ w.cell? ⟨b, off + i, none⟩ = some (.int .i64 x) := by
  rcases h with ⟨_, _, e, rfl⟩ | ⟨b, off, cap, e, h2, h3, h4⟩
  · simp at e
    exact ⟨e.2.1, by simp⟩
  · simp at e
    exact ⟨e.2.1, fun i x hx => ⟨b, off, e.1, h4 i x hx⟩⟩

theorem l27Sign_any (a b : Int) (w : World) :
    Calls Tryz.prog 105 #[.int .i64 a, .int .i64 b] w fun e w' => e = .returned (.int .i64 (sgn a b)) ∧ w = w' := by
  by_cases h1 : a < b
  · rw [sgn_lt h1]
    go_enter Tryz.func105, Tryz.ntmps105
    go_wp2
    go_ret
    exact ⟨rfl, rfl⟩
  · by_cases h2 : b < a
    · rw [sgn_gt h2]
      go_enter Tryz.func105, Tryz.ntmps105
      go_wp2
      go_ret
      exact ⟨rfl, rfl⟩
    · rw [sgn_eq (by omega)]
      go_enter Tryz.func105, Tryz.ntmps105
      go_wp2
      go_ret
      exact ⟨rfl, rfl⟩
theorem cmpCompare_any (a b : Int) (w : World) :
    Calls Tryz.prog 102 #[.int .i64 a, .int .i64 b] w fun e w' => e = .returned (.int .i64 (sgn a b)) ∧ w = w' := by
  by_cases h1 : a < b
  · rw [sgn_lt h1]
    go_enter Tryz.func102, Tryz.ntmps102
    go_wp2
    go_ret
    exact ⟨rfl, rfl⟩
  · by_cases h2 : b < a
    · rw [sgn_gt h2]
      go_enter Tryz.func102, Tryz.ntmps102
      go_wp2
      go_ret
      exact ⟨rfl, rfl⟩
    · rw [sgn_eq (by omega)]
      go_enter Tryz.func102, Tryz.ntmps102
      go_wp2
      go_ret
      exact ⟨rfl, rfl⟩

set_option maxRecDepth 100000 in
set_option maxHeartbeats 1000000 in
theorem l27List_any (s1 s2 : Value) (xs ys : List Int) (w : World) (h : IntSl w s1 xs) (h' : IntSl w s2 ys) :
    Calls Tryz.prog 81 #[s1, s2] w fun e w' => e = .returned (.int .i64 (lcmp xs ys)) ∧ ∃ n, w' = w.drewN n := by
  have hl1 := h.le
  have hl2 := h'.le
  obtain ⟨a, c, rfl⟩ := h.len
  obtain ⟨a', c', rfl⟩ := h'.len
  have HC := Lib.hid h.cells.2
  have HC' := Lib.hid h'.cells.2
  clear h h'
  obtain ⟨r, hr⟩ : ∃ r, lcmp xs ys = r := ⟨_, rfl⟩
  rw [hr]
  go_enter Tryz.func81, Tryz.ntmps81
  go_wp2
  go_loopw [5] (fun i wr => ∃ k : Nat, k ≤ xs.length ∧ k ≤ ys.length ∧ i = .int .i64 k ∧ Dr w wr ∧ lcmp (xs.drop k) (ys.drop k) = r) (fun i _ => xs.length - (intOf i).toNat)
  case atStart => exact ⟨0, Nat.zero_le _, Nat.zero_le _, rfl, Dr.refl _, by simpa using hr⟩
  case round =>
    obtain ⟨k, hk, hk', rfl, hdr, he⟩ := hrel
    have HE := Lib.hid he
    clear he hr
    by_cases h1 : k < xs.length
    · by_cases h2 : k < ys.length
      · obtain ⟨x, hx⟩ : ∃ x, xs[k]? = some x := ⟨xs[k], List.getElem?_eq_getElem h1⟩
        obtain ⟨y, hy⟩ : ∃ y, ys[k]? = some y := ⟨ys[k], List.getElem?_eq_getElem h2⟩
        obtain ⟨b, off, rfl, c1⟩ := HC.out k x hx
        rw [← hdr.cell] at c1
        obtain ⟨b', off', rfl, c2⟩ := HC'.out k y hy
        rw [← hdr.cell] at c2
        have HT := Lib.hid (lcmp_step hx hy)
        clear hx hy
        obtain ⟨z, hz⟩ : ∃ z, sgn x y = z := ⟨_, rfl⟩
        have hcall := fun w => l27Sign_any x y w
        rw [hz] at hcall
        have HS := Lib.hid hcall
        have HZ := Lib.hid hz
        clear hcall hz
        have i1 : (0 : Int) ≤ (k : Int) := by omega
        have i2 : (k : Int) < (xs.length : Int) := by omega
        have i3 : (k : Int) < (ys.length : Int) := by omega
        by_cases h0 : z = 0
        · subst h0
          go_wp2
          go_quiet ((go_at_call 105; exact Calls.quiet_of_same ((HS.out _).mono fun _ _ h => ⟨h.1, h.2.symm⟩)))
          go_wp2
          exact ⟨⟨k + 1, by omega, by omega, by go_num, by first | exact hdr | exact hdr.drewN _, by rw [← HE.out, HT.out, if_pos HZ.out]⟩, by simp [intOf]; omega⟩
        · have hz1 : (z == 0) = false := by simpa using h0
          have hz2 : (z != 0) = true := by simpa using h0
          go_wp2
          go_quiet ((go_at_call 105; exact Calls.quiet_of_same ((HS.out _).mono fun _ _ h => ⟨h.1, h.2.symm⟩)))
          go_wp2
          go_ret
          exact ⟨ret_i64 (by rw [← HE.out, HT.out, if_neg (by rw [HZ.out]; exact h0), HZ.out]), by first | exact hdr.out | exact (hdr.drewN _).out⟩
      · have hle : ys.length ≤ k := by omega
        have HT := Lib.hid (lcmp_end2 (b := ys) h1 hle)
        have HG := Lib.hid (sgn_gt (a := xs.length) (b := ys.length) (by omega))
        go_wp2_with fail
        refine (l27Sign_any _ _ _).mono ?_
        rintro e w' ⟨rfl, rfl⟩
        go_wp2
        go_ret
        exact ⟨ret_i64 (by rw [HG.out, ← HE.out, HT.out]), by first | exact hdr.out | exact (hdr.drewN _).out⟩
    · have hle : xs.length ≤ k := by omega
      have HT := Lib.hid (lcmp_end1 (b := ys) hle)
      go_wp2_with fail
      refine (l27Sign_any _ _ _).mono ?_
      rintro e w' ⟨rfl, rfl⟩
      go_wp2
      go_ret
      refine ⟨ret_i64 ?_, by first | exact hdr.out | exact (hdr.drewN _).out⟩
      rw [← HE.out, HT.out]
      split
      · exact sgn_lt (by omega)
      · exact sgn_eq (by omega)

set_option maxRecDepth 100000 in
set_option maxHeartbeats 1000000 in
theorem slicesCompare_any (s1 s2 : Value) (xs ys : List Int) (w : World) (h : IntSl w s1 xs) (h' : IntSl w s2 ys) :
    Calls Tryz.prog 103 #[s1, s2] w fun e w' => e = .returned (.int .i64 (lcmp xs ys)) ∧ ∃ n, w' = w.drewN n := by
  have hl1 := h.le
  have hl2 := h'.le
  obtain ⟨a, c, rfl⟩ := h.len
  obtain ⟨a', c', rfl⟩ := h'.len
  have HC := Lib.hid h.cells.2
  have HC' := Lib.hid h'.cells.2
  clear h h'
  obtain ⟨r, hr⟩ : ∃ r, lcmp xs ys = r := ⟨_, rfl⟩
  rw [hr]
  go_enter Tryz.func103, Tryz.ntmps103
  go_wp2
  go_loopw [11] (fun i wr => ∃ k : Nat, k ≤ xs.length ∧ k ≤ ys.length ∧ i = .int .i64 k ∧ Dr w wr ∧ lcmp (xs.drop k) (ys.drop k) = r) (fun i _ => xs.length - (intOf i).toNat)
  case atStart => exact ⟨0, Nat.zero_le _, Nat.zero_le _, rfl, Dr.refl _, by simpa using hr⟩
  case round =>
    obtain ⟨k, hk, hk', rfl, hdr, he⟩ := hrel
    have HE := Lib.hid he
    clear he hr
    by_cases h1 : k < xs.length
    · obtain ⟨x, hx⟩ : ∃ x, xs[k]? = some x := ⟨xs[k], List.getElem?_eq_getElem h1⟩
      obtain ⟨b, off, rfl, c1⟩ := HC.out k x hx
      rw [← hdr.cell] at c1
      have i1 : (0 : Int) ≤ (k : Int) := by omega
      have i2 : (k : Int) < (xs.length : Int) := by omega
      by_cases h2 : k < ys.length
      · obtain ⟨y, hy⟩ : ∃ y, ys[k]? = some y := ⟨ys[k], List.getElem?_eq_getElem h2⟩
        obtain ⟨b', off', rfl, c2⟩ := HC'.out k y hy
        rw [← hdr.cell] at c2
        have HT := Lib.hid (lcmp_step hx hy)
        clear hx hy
        obtain ⟨z, hz⟩ : ∃ z, sgn x y = z := ⟨_, rfl⟩
        have hcall := fun w => cmpCompare_any x y w
        rw [hz] at hcall
        have HS := Lib.hid hcall
        have HZ := Lib.hid hz
        clear hcall hz
        have i3 : (k : Int) < (ys.length : Int) := by omega
        by_cases h0 : z = 0
        · subst h0
          go_wp2_with (go_at_call 102; refine (HS.out _).mono ?_; rintro e w' ⟨rfl, rfl⟩)
          exact ⟨⟨k + 1, by omega, by omega, by go_num, by first | exact hdr | exact hdr.drewN _, by rw [← HE.out, HT.out, if_pos HZ.out]⟩, by simp [intOf]; omega⟩
        · have hz1 : (z == 0) = false := by simpa using h0
          have hz2 : (z != 0) = true := by simpa using h0
          go_wp2_with (go_at_call 102; refine (HS.out _).mono ?_; rintro e w' ⟨rfl, rfl⟩)
          go_ret
          exact ⟨ret_i64 (by rw [← HE.out, HT.out, if_neg (by rw [HZ.out]; exact h0), HZ.out]), by first | exact hdr.out | exact (hdr.drewN _).out⟩
      · have hle : ys.length ≤ k := by omega
        have HT := Lib.hid (lcmp_end2 (b := ys) h1 hle)
        clear hx
        go_wp2
        go_ret
        exact ⟨ret_i64 (by rw [← HE.out, HT.out]), by first | exact hdr.out | exact (hdr.drewN _).out⟩
    · have hle : xs.length ≤ k := by omega
      have HT := Lib.hid (lcmp_end1 (b := ys) hle)
      have hkx : k = xs.length := by omega
      subst hkx
      by_cases h2 : xs.length < ys.length
      · go_wp2
        go_ret
        exact ⟨ret_i64 (by rw [← HE.out, HT.out, if_pos h2]), by first | exact hdr.out | exact (hdr.drewN _).out⟩
      · go_wp2
        go_ret
        exact ⟨ret_i64 (by rw [← HE.out, HT.out, if_neg h2]), by first | exact hdr.out | exact (hdr.drewN _).out⟩

/-- cmp.Or over a block of four numbers. -/
theorem cmpOr_any (g : Nat) (a b c d : Int) (w : World) (h : Blk w g #[.int .i64 a, .int .i64 b, .int .i64 c, .int .i64 d] 3) :
    Calls Tryz.prog 101 #[.slice (some ⟨g, 0, none⟩) 4 4] w fun e w' => e = .returned (.int .i64 (or2 a (or2 b (or2 c d)))) ∧ w = w' := by
  obtain ⟨r, hr⟩ : ∃ r, or2 a (or2 b (or2 c d)) = r := ⟨_, rfl⟩
  rw [hr]
  have HR := Lib.hid hr
  clear hr
  have hc := h.cell
  by_cases h1 : a = 0
  · have e1 : (a == 0) = true := by simpa using h1
    have f1 : (a != 0) = false := by simpa using h1
    subst h1
    by_cases h2 : b = 0
    · subst h2
      by_cases h3 : c = 0
      · subst h3
        by_cases h4 : d = 0
        · subst h4
          go_enter Tryz.func101, Tryz.ntmps101
          go_wp2
          refine wp_loop_rounds 5 ?_
          repeat any_goals (rw [rounds_succ]; go_wp2)
          go_ret
          exact ⟨ret_i64 (by rw [← HR.out]; simp [or2]), rfl⟩
        · have f4 : (d != 0) = true := by simpa using h4
          have e4 : (d == 0) = false := by simpa using h4
          go_enter Tryz.func101, Tryz.ntmps101
          go_wp2
          refine wp_loop_rounds 5 ?_
          repeat any_goals (rw [rounds_succ]; go_wp2)
          go_ret
          exact ⟨ret_i64 (by rw [← HR.out]; simp [or2]), rfl⟩
      · have f3 : (c != 0) = true := by simpa using h3
        have e3 : (c == 0) = false := by simpa using h3
        go_enter Tryz.func101, Tryz.ntmps101
        go_wp2
        refine wp_loop_rounds 5 ?_
        repeat any_goals (rw [rounds_succ]; go_wp2)
        go_ret
        exact ⟨ret_i64 (by rw [← HR.out]; simp [or2, h3]), rfl⟩
    · have f2 : (b != 0) = true := by simpa using h2
      have e2 : (b == 0) = false := by simpa using h2
      go_enter Tryz.func101, Tryz.ntmps101
      go_wp2
      refine wp_loop_rounds 5 ?_
      repeat any_goals (rw [rounds_succ]; go_wp2)
      go_ret
      exact ⟨ret_i64 (by rw [← HR.out]; simp [or2, h2]), rfl⟩
  · have f1 : (a != 0) = true := by simpa using h1
    have e1 : (a == 0) = false := by simpa using h1
    go_enter Tryz.func101, Tryz.ntmps101
    go_wp2
    refine wp_loop_rounds 5 ?_
    repeat any_goals (rw [rounds_succ]; go_wp2)
    go_ret
    exact ⟨ret_i64 (by rw [← HR.out]; simp [or2, h1]), rfl⟩
end Go.Proofs.YtjanifoipbmkhaaGreat

/- Contracts of the functions that compare two devices. -/
namespace Go.Proofs.YtjanifoipbmkhaaGreat
open Go.RowKit
set_option linter.unusedVariables false
set_option linter.unusedSimpArgs false

theorem or2_ne {a b : Int} (h : a ≠ 0) : or2 a b = a := by simp [or2, h]
theorem or2_z (b : Int) : or2 0 b = b := by simp [or2]

set_option maxRecDepth 100000 in
set_option maxHeartbeats 2000000 in
theorem specCompareDevices_any (k1 w1 l1 k2 w2 l2 : Int) (s1 s2 : Value) (xs ys : List Int) (w : World) (h : IntSl w s1 xs) (h' : IntSl w s2 ys) :
    Calls Tryz.prog 85 #[.agg #[.int .i64 k1, s1, .int .i64 w1, .int .i64 l1], .agg #[.int .i64 k2, s2, .int .i64 w2, .int .i64 l2]] w fun e w' => e = .returned (.int .i64 (devcmp k1 k2 xs ys w1 w2 l1 l2)) ∧ Below w.heap.size w w' := by
  obtain ⟨r, hr⟩ : ∃ r, devcmp k1 k2 xs ys w1 w2 l1 l2 = r := ⟨_, rfl⟩
  rw [hr]
  unfold devcmp at hr
  have hw := (((Below.refl _ w).alloc (Nat.le_refl _) (.cells #[.int .i64 k1, s1, .int .i64 w1, .int .i64 l1] 46)).alloc (by simp) (.cells #[.int .i64 k2, s2, .int .i64 w2, .int .i64 l2] 46))
  have h1 := h.by hw
  have h2 := h'.by hw
  obtain ⟨a, c, rfl⟩ := h.len
  obtain ⟨a', c', rfl⟩ := h'.len
  clear h h' hw
  have g1 := fun w => l27Sign_any k1 k2 w
  have g2 := fun w h h' => l27List_any (.slice a xs.length c) (.slice a' ys.length c') xs ys w h h'
  have g3 := fun w => l27Sign_any w1 w2 w
  have g4 := fun w => l27Sign_any l1 l2 w
  generalize sgn k1 k2 = z1 at *
  generalize lcmp xs ys = z2 at *
  generalize sgn w1 w2 = z3 at *
  generalize sgn l1 l2 = z4 at *
  have HR := Lib.hid hr
  have H1 := Lib.hid g1
  have H2 := Lib.hid g2
  have H3 := Lib.hid g3
  have H4 := Lib.hid g4
  clear hr g1 g2 g3 g4
  by_cases e1 : z1 = 0
  · subst e1
    by_cases e2 : z2 = 0
    · subst e2
      by_cases e3 : z3 = 0
      · subst e3
        go_enter Tryz.func85, Tryz.ntmps85
        go_wp2_with fail
        refine (H1.out _).mono ?_
        rintro e w' ⟨rfl, rfl⟩
        go_wp2_with fail
        refine (H2.out _ h1 h2).mono ?_
        rintro e w' ⟨rfl, m, rfl⟩
        go_wp2_with fail
        refine (H3.out _).mono ?_
        rintro e w' ⟨rfl, rfl⟩
        go_wp2_with fail
        refine (H4.out _).mono ?_
        rintro e w' ⟨rfl, rfl⟩
        go_wp2
        go_ret
        exact ⟨ret_i64 (by rw [← HR.out]; simp [or2]), (by ((repeat (first | (with_reducible exact Below.refl _ _) | (with_reducible refine below_drewN ?_ _) | (with_reducible refine Below.drew ?_) | (with_reducible refine below_al ?_ _) | (with_reducible refine below_on (by assumption) ?_) | ((with_reducible refine Below.setCell ?_ ?_ _); rotate_left; focus (first | omega | (simp; done) | (simp; omega))) | (with_reducible assumption))); done))⟩
      · have f3 : (z3 != 0) = true := by simpa using e3
        have d3 : (z3 == 0) = false := by simpa using e3
        go_enter Tryz.func85, Tryz.ntmps85
        go_wp2_with fail
        refine (H1.out _).mono ?_
        rintro e w' ⟨rfl, rfl⟩
        go_wp2_with fail
        refine (H2.out _ h1 h2).mono ?_
        rintro e w' ⟨rfl, m, rfl⟩
        go_wp2_with fail
        refine (H3.out _).mono ?_
        rintro e w' ⟨rfl, rfl⟩
        go_wp2
        go_ret
        exact ⟨ret_i64 (by rw [← HR.out]; simp [or2, e3]), (by ((repeat (first | (with_reducible exact Below.refl _ _) | (with_reducible refine below_drewN ?_ _) | (with_reducible refine Below.drew ?_) | (with_reducible refine below_al ?_ _) | (with_reducible refine below_on (by assumption) ?_) | ((with_reducible refine Below.setCell ?_ ?_ _); rotate_left; focus (first | omega | (simp; done) | (simp; omega))) | (with_reducible assumption))); done))⟩
    · have f2 : (z2 != 0) = true := by simpa using e2
      have d2 : (z2 == 0) = false := by simpa using e2
      go_enter Tryz.func85, Tryz.ntmps85
      go_wp2_with fail
      refine (H1.out _).mono ?_
      rintro e w' ⟨rfl, rfl⟩
      go_wp2_with fail
      refine (H2.out _ h1 h2).mono ?_
      rintro e w' ⟨rfl, m, rfl⟩
      go_wp2
      go_ret
      exact ⟨ret_i64 (by rw [← HR.out]; simp [or2, e2]), (by ((repeat (first | (with_reducible exact Below.refl _ _) | (with_reducible refine below_drewN ?_ _) | (with_reducible refine Below.drew ?_) | (with_reducible refine below_al ?_ _) | (with_reducible refine below_on (by assumption) ?_) | ((with_reducible refine Below.setCell ?_ ?_ _); rotate_left; focus (first | omega | (simp; done) | (simp; omega))) | (with_reducible assumption))); done))⟩
  · have f1 : (z1 != 0) = true := by simpa using e1
    have d1 : (z1 == 0) = false := by simpa using e1
    go_enter Tryz.func85, Tryz.ntmps85
    go_wp2_with fail
    refine (H1.out _).mono ?_
    rintro e w' ⟨rfl, rfl⟩
    go_wp2
    go_ret
    exact ⟨ret_i64 (by rw [← HR.out]; simp [or2, e1]), (by ((repeat (first | (with_reducible exact Below.refl _ _) | (with_reducible refine below_drewN ?_ _) | (with_reducible refine Below.drew ?_) | (with_reducible refine below_al ?_ _) | (with_reducible refine below_on (by assumption) ?_) | ((with_reducible refine Below.setCell ?_ ?_ _); rotate_left; focus (first | omega | (simp; done) | (simp; omega))) | (with_reducible assumption))); done))⟩


set_option maxRecDepth 100000 in
set_option maxHeartbeats 2000000 in
theorem compareDevices_any (k1 w1 l1 k2 w2 l2 : Int) (s1 s2 : Value) (xs ys : List Int) (w : World) (h : IntSl w s1 xs) (h' : IntSl w s2 ys) :
    Calls Tryz.prog 73 #[.agg #[.int .i64 k1, s1, .int .i64 w1, .int .i64 l1], .agg #[.int .i64 k2, s2, .int .i64 w2, .int .i64 l2]] w fun e w' => e = .returned (.int .i64 (devcmp k1 k2 xs ys w1 w2 l1 l2)) ∧ Below w.heap.size w w' := by
  obtain ⟨r, hr⟩ : ∃ r, devcmp k1 k2 xs ys w1 w2 l1 l2 = r := ⟨_, rfl⟩
  rw [hr]
  unfold devcmp at hr
  have hw := (((Below.refl _ w).alloc (Nat.le_refl _) (.cells #[.int .i64 k1, s1, .int .i64 w1, .int .i64 l1] 46)).alloc (by simp) (.cells #[.int .i64 k2, s2, .int .i64 w2, .int .i64 l2] 46))
  have h1 := h.by hw
  have h2 := h'.by hw
  obtain ⟨a, c, rfl⟩ := h.len
  obtain ⟨a', c', rfl⟩ := h'.len
  clear h h' hw
  have g1 := fun w => cmpCompare_any k1 k2 w
  have g2 := fun w h h' => slicesCompare_any (.slice a xs.length c) (.slice a' ys.length c') xs ys w h h'
  have g3 := fun w => cmpCompare_any w1 w2 w
  have g4 := fun w => cmpCompare_any l1 l2 w
  generalize sgn k1 k2 = z1 at *
  generalize lcmp xs ys = z2 at *
  generalize sgn w1 w2 = z3 at *
  generalize sgn l1 l2 = z4 at *
  have HR := Lib.hid hr
  have H1 := Lib.hid g1
  have H2 := Lib.hid g2
  have H3 := Lib.hid g3
  have H4 := Lib.hid g4
  clear hr g1 g2 g3 g4
  go_enter Tryz.func73, Tryz.ntmps73
  go_wp2_with fail
  go_region_held3 (fun w' => (Blk w' (w.heap.size) #[.int .i64 k1, .slice a xs.length c, .int .i64 w1, .int .i64 l1] 46 ∧ ∀ o, w'.cell? ⟨w.heap.size, o, none⟩ = (#[.int .i64 k1, .slice a xs.length c, .int .i64 w1, .int .i64 l1] : Array Value)[o]?) ∧ (Blk w' (w.heap.size + 1) #[.int .i64 k2, .slice a' ys.length c', .int .i64 w2, .int .i64 l2] 46 ∧ ∀ o, w'.cell? ⟨w.heap.size + 1, o, none⟩ = (#[.int .i64 k2, .slice a' ys.length c', .int .i64 w2, .int .i64 l2] : Array Value)[o]?) ∧ Below w.heap.size w w') (((try (obtain ⟨⟨hS0, _⟩, ⟨hS1, _⟩, hSB⟩ := hHeld)); refine ⟨Blk.both ?_, Blk.both ?_, ?_⟩ <;> first | ((repeat (first | (with_reducible assumption) | (with_reducible refine Blk.drewN ?_ _) | (with_reducible refine Blk.drew ?_) | ((with_reducible refine Blk.new _ ?_); focus (first | omega | (simp; done) | (simp; omega))) | (with_reducible refine Blk.past ?_ _) | ((with_reducible refine Blk.apart ?_ _ _ _ ?_); rotate_left; focus (first | omega | (simp; done) | (simp; omega))) | (with_reducible refine Blk.by (by assumption) ?_))); done) | ((repeat (first | (with_reducible exact Below.refl _ _) | (with_reducible refine below_drewN ?_ _) | (with_reducible refine Below.drew ?_) | (with_reducible refine below_al ?_ _) | (with_reducible refine below_on (by assumption) ?_) | ((with_reducible refine Below.setCell ?_ ?_ _); rotate_left; focus (first | omega | (simp; done) | (simp; omega))) | (with_reducible assumption))); done)))
    (first | (go_at_call_of 102 (Value.int .i64 k1); refine (H1.out _).mono ?_; rintro e w' ⟨rfl, rfl⟩) | (go_at_call_of 102 (Value.int .i64 w1); refine (H3.out _).mono ?_; rintro e w' ⟨rfl, rfl⟩) | (go_at_call_of 102 (Value.int .i64 l1); refine (H4.out _).mono ?_; rintro e w' ⟨rfl, rfl⟩) | (go_at_call 103; refine (H2.out _ (h1.by (below_of_drewN _ 1)) (h2.by (below_of_drewN _ 1))).mono ?_; rintro e w' ⟨rfl, m, rfl⟩) | (go_at_call 101; refine (cmpOr_any _ z1 z2 z3 z4 _ (Blk.new _ (by simp))).mono ?_; rintro e w' ⟨rfl, rfl⟩))
  all_goals go_wp2
  all_goals go_ret
  exact ⟨ret_i64 HR.out, (by ((repeat (first | (with_reducible exact Below.refl _ _) | (with_reducible refine below_drewN ?_ _) | (with_reducible refine Below.drew ?_) | (with_reducible refine below_al ?_ _) | (with_reducible refine below_on (by assumption) ?_) | ((with_reducible refine Below.setCell ?_ ?_ _); rotate_left; focus (first | omega | (simp; done) | (simp; omega))) | (with_reducible assumption))); done))⟩

end Go.Proofs.YtjanifoipbmkhaaGreat
