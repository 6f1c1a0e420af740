/- Contracts and plain laws, part 3, for the statement's proof. -/
import Derived.Test.YtifbffianbgeaaaGreatPkCmnLaw2
import Derived.Laws.BytesArg
import Derived.WalkLawsBesides
import Derived.Deep.AppendLies
import Derived.Lib.SliceRun
import Derived.Deep.DeepCutAuto
import Derived.Deep.RegionLaw
namespace Go.Proofs.YtifbffianbgeaaaGreat
open Go.RowKit
set_option linter.unusedVariables false
set_option linter.unusedSimpArgs false
def Dr (w w' : World) : Prop := ∃ n, w' = w.drewN n
theorem Dr.refl (w : World) : Dr w w := ⟨0, rfl⟩
theorem Dr.drewN {w w' : World} (h : Dr w w') (m : Nat) : Dr w (w'.drewN m) := by obtain ⟨n, rfl⟩ := h; exact ⟨n + m, World.drewN_drewN _ _ _⟩
theorem Dr.cell {w w' : World} (h : Dr w w') (p : Addr) : w'.cell? p = w.cell? p := by obtain ⟨n, rfl⟩ := h; rfl
theorem Dr.out {w w' : World} (h : Dr w w') : ∃ n, w' = w.drewN n := h
def sgn (a b : Int) : Int := if a < b then -1 else if b < a then 1 else 0
def lcmp : List Int → List Int → Int
  | [], [] => 0
  | [], _ :: _ => -1
  | _ :: _, [] => 1
  | a :: r, b :: s => if sgn a b = 0 then lcmp r s else sgn a b
def or2 (a b : Int) : Int := if a = 0 then b else a
def devcmp (k1 k2 : Int) (p1 p2 : List Int) (w1 w2 l1 l2 : Int) : Int := or2 (sgn k1 k2) (or2 (lcmp p1 p2) (or2 (sgn w1 w2) (sgn l1 l2)))
theorem sgn_lt {a b : Int} (h : a < b) : sgn a b = -1 := by simp [sgn, h]
theorem sgn_gt {a b : Int} (h : b < a) : sgn a b = 1 := by
  have : ¬ a < b := by omega
  simp [sgn, h, this]
theorem sgn_eq {a b : Int} (h : a = b) : sgn a b = 0 := by subst h; simp [sgn]
theorem drop_of {l : List Int} {k : Nat} {x : Int} (h : l[k]? = some x) : l.drop k = x :: l.drop (k + 1) := by
  obtain ⟨hlt, e⟩ := List.getElem?_eq_some_iff.1 h
  rw [List.drop_eq_getElem_cons hlt, e]
theorem lcmp_step {a b : List Int} {k : Nat} {x y : Int} (hx : a[k]? = some x) (hy : b[k]? = some y) : lcmp (a.drop k) (b.drop k) = if sgn x y = 0 then lcmp (a.drop (k + 1)) (b.drop (k + 1)) else sgn x y := by
  rw [drop_of hx, drop_of hy]; rfl
theorem lcmp_end1 {a b : List Int} {k : Nat} (ha : a.length ≤ k) : lcmp (a.drop k) (b.drop k) = if k < b.length then -1 else 0 := by
  rw [List.drop_eq_nil_of_le ha]
  split
  · rename_i h
    rw [List.drop_eq_getElem_cons h]; rfl
  · rw [List.drop_eq_nil_of_le (by omega)]; rfl
theorem lcmp_end2 {a b : List Int} {k : Nat} (ha : k < a.length) (hb : b.length ≤ k) : lcmp (a.drop k) (b.drop k) = 1 := by
  rw [List.drop_eq_nil_of_le hb, List.drop_eq_getElem_cons ha]; rfl
theorem IntSl.cells {w : World} {a : Option Addr} {n c : Nat} {zs : List Int} (h : IntSl w (.slice a n c) zs) : n = zs.length ∧ ∀ (i : Nat) (x : Int), zs[i]? = some x → ∃ b off, a = some ⟨b, off, none⟩ ∧ w.cell? ⟨b, off + i, none⟩ = some (.int .i64 x) := by
  rcases h with ⟨_, _, e, rfl⟩ | ⟨b, off, cap, e, h2, h3, h4⟩
  · simp at e
    exact ⟨e.2.1, by simp⟩
  · simp at e
    exact ⟨e.2.1, fun i x hx => ⟨b, off, e.1, h4 i x hx⟩⟩
theorem l27Sign_any (a b : Int) (w : World) :
    Calls Tryz.prog 107 #[.int .i64 a, .int .i64 b] w fun e w' => e = .returned (.int .i64 (sgn a b)) ∧ w = w' := by
  by_cases h1 : a < b
  · rw [sgn_lt h1]
    go_enter Tryz.func107, Tryz.ntmps107
    go_wp2
    go_ret
    exact ⟨rfl, rfl⟩
  · by_cases h2 : b < a
    · rw [sgn_gt h2]
      go_enter Tryz.func107, Tryz.ntmps107
      go_wp2
      go_ret
      exact ⟨rfl, rfl⟩
    · rw [sgn_eq (by omega)]
      go_enter Tryz.func107, Tryz.ntmps107
      go_wp2
      go_ret
      exact ⟨rfl, rfl⟩
theorem cmpCompare_any (a b : Int) (w : World) :
    Calls Tryz.prog 113 #[.int .i64 a, .int .i64 b] w fun e w' => e = .returned (.int .i64 (sgn a b)) ∧ w = w' := by
  by_cases h1 : a < b
  · rw [sgn_lt h1]
    go_enter Tryz.func113, Tryz.ntmps113
    go_wp2
    go_ret
    exact ⟨rfl, rfl⟩
  · by_cases h2 : b < a
    · rw [sgn_gt h2]
      go_enter Tryz.func113, Tryz.ntmps113
      go_wp2
      go_ret
      exact ⟨rfl, rfl⟩
    · rw [sgn_eq (by omega)]
      go_enter Tryz.func113, Tryz.ntmps113
      go_wp2
      go_ret
      exact ⟨rfl, rfl⟩
set_option maxRecDepth 100000 in
set_option maxHeartbeats 1000000 in
theorem l27List_any (s1 s2 : Value) (xs ys : List Int) (w : World) (h : IntSl w s1 xs) (h' : IntSl w s2 ys) :
    Calls Tryz.prog 108 #[s1, s2] w fun e w' => e = .returned (.int .i64 (lcmp xs ys)) ∧ ∃ n, w' = w.drewN n := by
  have hl1 := h.le
  have hl2 := h'.le
  obtain ⟨a, c, rfl⟩ := h.len
  obtain ⟨a', c', rfl⟩ := h'.len
  have HC := Lib.hid h.cells.2
  have HC' := Lib.hid h'.cells.2
  clear h h'
  obtain ⟨r, hr⟩ : ∃ r, lcmp xs ys = r := ⟨_, rfl⟩
  rw [hr]
  go_enter Tryz.func108, Tryz.ntmps108
  go_wp2
  go_loopw [5] (fun i wr => ∃ k : Nat, k ≤ xs.length ∧ k ≤ ys.length ∧ i = .int .i64 k ∧ Dr w wr ∧ lcmp (xs.drop k) (ys.drop k) = r) (fun i _ => xs.length - (intOf i).toNat)
  case atStart => exact ⟨0, Nat.zero_le _, Nat.zero_le _, rfl, Dr.refl _, by simpa using hr⟩
  case round =>
    obtain ⟨k, hk, hk', rfl, hdr, he⟩ := hrel
    have HE := Lib.hid he
    clear he hr
    by_cases h1 : k < xs.length
    · by_cases h2 : k < ys.length
      · obtain ⟨x, hx⟩ : ∃ x, xs[k]? = some x := ⟨xs[k], List.getElem?_eq_getElem h1⟩
        obtain ⟨y, hy⟩ : ∃ y, ys[k]? = some y := ⟨ys[k], List.getElem?_eq_getElem h2⟩
        obtain ⟨b, off, rfl, c1⟩ := HC.out k x hx
        rw [← hdr.cell] at c1
        obtain ⟨b', off', rfl, c2⟩ := HC'.out k y hy
        rw [← hdr.cell] at c2
        have HT := Lib.hid (lcmp_step hx hy)
        clear hx hy
        obtain ⟨z, hz⟩ : ∃ z, sgn x y = z := ⟨_, rfl⟩
        have hcall := fun w => l27Sign_any x y w
        rw [hz] at hcall
        have HS := Lib.hid hcall
        have HZ := Lib.hid hz
        clear hcall hz
        have i1 : (0 : Int) ≤ (k : Int) := by omega
        have i2 : (k : Int) < (xs.length : Int) := by omega
        have i3 : (k : Int) < (ys.length : Int) := by omega
        by_cases h0 : z = 0
        · subst h0
          go_wp2
          go_quiet ((go_at_call 107; exact Calls.quiet_of_same ((HS.out _).mono fun _ _ h => ⟨h.1, h.2.symm⟩)))
          go_wp2
          exact ⟨⟨k + 1, by omega, by omega, by go_num, by first | exact hdr | exact hdr.drewN _, by rw [← HE.out, HT.out, if_pos HZ.out]⟩, by simp [intOf]; omega⟩
        · have hz1 : (z == 0) = false := by simpa using h0
          have hz2 : (z != 0) = true := by simpa using h0
          go_wp2
          go_quiet ((go_at_call 107; exact Calls.quiet_of_same ((HS.out _).mono fun _ _ h => ⟨h.1, h.2.symm⟩)))
          go_wp2
          go_ret
          exact ⟨ret_i64 (by rw [← HE.out, HT.out, if_neg (by rw [HZ.out]; exact h0), HZ.out]), by first | exact hdr.out | exact (hdr.drewN _).out⟩
      · have hle : ys.length ≤ k := by omega
        have HT := Lib.hid (lcmp_end2 (b := ys) h1 hle)
        have HG := Lib.hid (sgn_gt (a := xs.length) (b := ys.length) (by omega))
        go_wp2_with fail
        refine (l27Sign_any _ _ _).mono ?_
        rintro e w' ⟨rfl, rfl⟩
        go_wp2
        go_ret
        exact ⟨ret_i64 (by rw [HG.out, ← HE.out, HT.out]), by first | exact hdr.out | exact (hdr.drewN _).out⟩
    · have hle : xs.length ≤ k := by omega
      have HT := Lib.hid (lcmp_end1 (b := ys) hle)
      go_wp2_with fail
      refine (l27Sign_any _ _ _).mono ?_
      rintro e w' ⟨rfl, rfl⟩
      go_wp2
      go_ret
      refine ⟨ret_i64 ?_, by first | exact hdr.out | exact (hdr.drewN _).out⟩
      rw [← HE.out, HT.out]
      split
      · exact sgn_lt (by omega)
      · exact sgn_eq (by omega)
set_option maxRecDepth 100000 in
set_option maxHeartbeats 1000000 in
theorem slicesCompare_any (s1 s2 : Value) (xs ys : List Int) (w : World) (h : IntSl w s1 xs) (h' : IntSl w s2 ys) :
    Calls Tryz.prog 114 #[s1, s2] w fun e w' => e = .returned (.int .i64 (lcmp xs ys)) ∧ ∃ n, w' = w.drewN n := by
  have hl1 := h.le
  have hl2 := h'.le
  obtain ⟨a, c, rfl⟩ := h.len
  obtain ⟨a', c', rfl⟩ := h'.len
  have HC := Lib.hid h.cells.2
  have HC' := Lib.hid h'.cells.2
  clear h h'
  obtain ⟨r, hr⟩ : ∃ r, lcmp xs ys = r := ⟨_, rfl⟩
  rw [hr]
  go_enter Tryz.func114, Tryz.ntmps114
  go_wp2
  go_loopw [11] (fun i wr => ∃ k : Nat, k ≤ xs.length ∧ k ≤ ys.length ∧ i = .int .i64 k ∧ Dr w wr ∧ lcmp (xs.drop k) (ys.drop k) = r) (fun i _ => xs.length - (intOf i).toNat)
  case atStart => exact ⟨0, Nat.zero_le _, Nat.zero_le _, rfl, Dr.refl _, by simpa using hr⟩
  case round =>
    obtain ⟨k, hk, hk', rfl, hdr, he⟩ := hrel
    have HE := Lib.hid he
    clear he hr
    by_cases h1 : k < xs.length
    · obtain ⟨x, hx⟩ : ∃ x, xs[k]? = some x := ⟨xs[k], List.getElem?_eq_getElem h1⟩
      obtain ⟨b, off, rfl, c1⟩ := HC.out k x hx
      rw [← hdr.cell] at c1
      have i1 : (0 : Int) ≤ (k : Int) := by omega
      have i2 : (k : Int) < (xs.length : Int) := by omega
      by_cases h2 : k < ys.length
      · obtain ⟨y, hy⟩ : ∃ y, ys[k]? = some y := ⟨ys[k], List.getElem?_eq_getElem h2⟩
        obtain ⟨b', off', rfl, c2⟩ := HC'.out k y hy
        rw [← hdr.cell] at c2
        have HT := Lib.hid (lcmp_step hx hy)
        clear hx hy
        obtain ⟨z, hz⟩ : ∃ z, sgn x y = z := ⟨_, rfl⟩
        have hcall := fun w => cmpCompare_any x y w
        rw [hz] at hcall
        have HS := Lib.hid hcall
        have HZ := Lib.hid hz
        clear hcall hz
        have i3 : (k : Int) < (ys.length : Int) := by omega
        by_cases h0 : z = 0
        · subst h0
          go_wp2_with (go_at_call 113; refine (HS.out _).mono ?_; rintro e w' ⟨rfl, rfl⟩)
          exact ⟨⟨k + 1, by omega, by omega, by go_num, by first | exact hdr | exact hdr.drewN _, by rw [← HE.out, HT.out, if_pos HZ.out]⟩, by simp [intOf]; omega⟩
        · have hz1 : (z == 0) = false := by simpa using h0
          have hz2 : (z != 0) = true := by simpa using h0
          go_wp2_with (go_at_call 113; refine (HS.out _).mono ?_; rintro e w' ⟨rfl, rfl⟩)
          go_ret
          exact ⟨ret_i64 (by rw [← HE.out, HT.out, if_neg (by rw [HZ.out]; exact h0), HZ.out]), by first | exact hdr.out | exact (hdr.drewN _).out⟩
      · have hle : ys.length ≤ k := by omega
        have HT := Lib.hid (lcmp_end2 (b := ys) h1 hle)
        clear hx
        go_wp2
        go_ret
        exact ⟨ret_i64 (by rw [← HE.out, HT.out]), by first | exact hdr.out | exact (hdr.drewN _).out⟩
    · have hle : xs.length ≤ k := by omega
      have HT := Lib.hid (lcmp_end1 (b := ys) hle)
      have hkx : k = xs.length := by omega
      subst hkx
      by_cases h2 : xs.length < ys.length
      · go_wp2
        go_ret
        exact ⟨ret_i64 (by rw [← HE.out, HT.out, if_pos h2]), by first | exact hdr.out | exact (hdr.drewN _).out⟩
      · go_wp2
        go_ret
        exact ⟨ret_i64 (by rw [← HE.out, HT.out, if_neg h2]), by first | exact hdr.out | exact (hdr.drewN _).out⟩
theorem cmpOr_any (g : Nat) (a b c d : Int) (w : World) (h : Blk w g #[.int .i64 a, .int .i64 b, .int .i64 c, .int .i64 d] 3) :
    Calls Tryz.prog 112 #[.slice (some ⟨g, 0, none⟩) 4 4] w fun e w' => e = .returned (.int .i64 (or2 a (or2 b (or2 c d)))) ∧ w = w' := by
  obtain ⟨r, hr⟩ : ∃ r, or2 a (or2 b (or2 c d)) = r := ⟨_, rfl⟩
  rw [hr]
  have HR := Lib.hid hr
  clear hr
  have hc := h.cell
  by_cases h1 : a = 0
  · have e1 : (a == 0) = true := by simpa using h1
    have f1 : (a != 0) = false := by simpa using h1
    subst h1
    by_cases h2 : b = 0
    · subst h2
      by_cases h3 : c = 0
      · subst h3
        by_cases h4 : d = 0
        · subst h4
          go_enter Tryz.func112, Tryz.ntmps112
          go_wp2
          refine wp_loop_rounds 5 ?_
          repeat any_goals (rw [rounds_succ]; go_wp2)
          go_ret
          exact ⟨ret_i64 (by rw [← HR.out]; simp [or2]), rfl⟩
        · have f4 : (d != 0) = true := by simpa using h4
          have e4 : (d == 0) = false := by simpa using h4
          go_enter Tryz.func112, Tryz.ntmps112
          go_wp2
          refine wp_loop_rounds 5 ?_
          repeat any_goals (rw [rounds_succ]; go_wp2)
          go_ret
          exact ⟨ret_i64 (by rw [← HR.out]; simp [or2]), rfl⟩
      · have f3 : (c != 0) = true := by simpa using h3
        have e3 : (c == 0) = false := by simpa using h3
        go_enter Tryz.func112, Tryz.ntmps112
        go_wp2
        refine wp_loop_rounds 5 ?_
        repeat any_goals (rw [rounds_succ]; go_wp2)
        go_ret
        exact ⟨ret_i64 (by rw [← HR.out]; simp [or2, h3]), rfl⟩
    · have f2 : (b != 0) = true := by simpa using h2
      have e2 : (b == 0) = false := by simpa using h2
      go_enter Tryz.func112, Tryz.ntmps112
      go_wp2
      refine wp_loop_rounds 5 ?_
      repeat any_goals (rw [rounds_succ]; go_wp2)
      go_ret
      exact ⟨ret_i64 (by rw [← HR.out]; simp [or2, h2]), rfl⟩
  · have f1 : (a != 0) = true := by simpa using h1
    have e1 : (a == 0) = false := by simpa using h1
    go_enter Tryz.func112, Tryz.ntmps112
    go_wp2
    refine wp_loop_rounds 5 ?_
    repeat any_goals (rw [rounds_succ]; go_wp2)
    go_ret
    exact ⟨ret_i64 (by rw [← HR.out]; simp [or2, h1]), rfl⟩
/- Contracts of the functions that compare two devices. -/
theorem or2_ne {a b : Int} (h : a ≠ 0) : or2 a b = a := by simp [or2, h]
theorem or2_z (b : Int) : or2 0 b = b := by simp [or2]
set_option maxRecDepth 100000 in
set_option maxHeartbeats 2000000 in
theorem specCompareDevices_any (k1 w1 l1 k2 w2 l2 : Int) (s1 s2 : Value) (xs ys : List Int) (w : World) (h : IntSl w s1 xs) (h' : IntSl w s2 ys) :
    Calls Tryz.prog 59 #[.agg #[.int .i64 k1, s1, .int .i64 w1, .int .i64 l1], .agg #[.int .i64 k2, s2, .int .i64 w2, .int .i64 l2]] w fun e w' => e = .returned (.int .i64 (devcmp k1 k2 xs ys w1 w2 l1 l2)) ∧ Below w.heap.size w w' := by
  obtain ⟨r, hr⟩ : ∃ r, devcmp k1 k2 xs ys w1 w2 l1 l2 = r := ⟨_, rfl⟩
  rw [hr]
  unfold devcmp at hr
  have hw := (((Below.refl _ w).alloc (Nat.le_refl _) (.cells #[.int .i64 k1, s1, .int .i64 w1, .int .i64 l1] 62)).alloc (by simp) (.cells #[.int .i64 k2, s2, .int .i64 w2, .int .i64 l2] 62))
  have h1 := h.by hw
  have h2 := h'.by hw
  obtain ⟨a, c, rfl⟩ := h.len
  obtain ⟨a', c', rfl⟩ := h'.len
  clear h h' hw
  have g1 := fun w => l27Sign_any k1 k2 w
  have g2 := fun w h h' => l27List_any (.slice a xs.length c) (.slice a' ys.length c') xs ys w h h'
  have g3 := fun w => l27Sign_any w1 w2 w
  have g4 := fun w => l27Sign_any l1 l2 w
  generalize sgn k1 k2 = z1 at *
  generalize lcmp xs ys = z2 at *
  generalize sgn w1 w2 = z3 at *
  generalize sgn l1 l2 = z4 at *
  have HR := Lib.hid hr
  have H1 := Lib.hid g1
  have H2 := Lib.hid g2
  have H3 := Lib.hid g3
  have H4 := Lib.hid g4
  clear hr g1 g2 g3 g4
  by_cases e1 : z1 = 0
  · subst e1
    by_cases e2 : z2 = 0
    · subst e2
      by_cases e3 : z3 = 0
      · subst e3
        go_enter Tryz.func59, Tryz.ntmps59
        go_wp2_with fail
        refine (H1.out _).mono ?_
        rintro e w' ⟨rfl, rfl⟩
        go_wp2_with fail
        refine (H2.out _ h1 h2).mono ?_
        rintro e w' ⟨rfl, m, rfl⟩
        go_wp2_with fail
        refine (H3.out _).mono ?_
        rintro e w' ⟨rfl, rfl⟩
        go_wp2_with fail
        refine (H4.out _).mono ?_
        rintro e w' ⟨rfl, rfl⟩
        go_wp2
        go_ret
        exact ⟨ret_i64 (by rw [← HR.out]; simp [or2]), blwT⟩
      · have f3 : (z3 != 0) = true := by simpa using e3
        have d3 : (z3 == 0) = false := by simpa using e3
        go_enter Tryz.func59, Tryz.ntmps59
        go_wp2_with fail
        refine (H1.out _).mono ?_
        rintro e w' ⟨rfl, rfl⟩
        go_wp2_with fail
        refine (H2.out _ h1 h2).mono ?_
        rintro e w' ⟨rfl, m, rfl⟩
        go_wp2_with fail
        refine (H3.out _).mono ?_
        rintro e w' ⟨rfl, rfl⟩
        go_wp2
        go_ret
        exact ⟨ret_i64 (by rw [← HR.out]; simp [or2, e3]), blwT⟩
    · have f2 : (z2 != 0) = true := by simpa using e2
      have d2 : (z2 == 0) = false := by simpa using e2
      go_enter Tryz.func59, Tryz.ntmps59
      go_wp2_with fail
      refine (H1.out _).mono ?_
      rintro e w' ⟨rfl, rfl⟩
      go_wp2_with fail
      refine (H2.out _ h1 h2).mono ?_
      rintro e w' ⟨rfl, m, rfl⟩
      go_wp2
      go_ret
      exact ⟨ret_i64 (by rw [← HR.out]; simp [or2, e2]), blwT⟩
  · have f1 : (z1 != 0) = true := by simpa using e1
    have d1 : (z1 == 0) = false := by simpa using e1
    go_enter Tryz.func59, Tryz.ntmps59
    go_wp2_with fail
    refine (H1.out _).mono ?_
    rintro e w' ⟨rfl, rfl⟩
    go_wp2
    go_ret
    exact ⟨ret_i64 (by rw [← HR.out]; simp [or2, e1]), blwT⟩
set_option maxRecDepth 100000 in
set_option maxHeartbeats 2000000 in
theorem compareDevices_any (k1 w1 l1 k2 w2 l2 : Int) (s1 s2 : Value) (xs ys : List Int) (w : World) (h : IntSl w s1 xs) (h' : IntSl w s2 ys) :
    Calls Tryz.prog 62 #[.agg #[.int .i64 k1, s1, .int .i64 w1, .int .i64 l1], .agg #[.int .i64 k2, s2, .int .i64 w2, .int .i64 l2]] w fun e w' => e = .returned (.int .i64 (devcmp k1 k2 xs ys w1 w2 l1 l2)) ∧ Below w.heap.size w w' := by
  obtain ⟨r, hr⟩ : ∃ r, devcmp k1 k2 xs ys w1 w2 l1 l2 = r := ⟨_, rfl⟩
  rw [hr]
  unfold devcmp at hr
  have hw := (((Below.refl _ w).alloc (Nat.le_refl _) (.cells #[.int .i64 k1, s1, .int .i64 w1, .int .i64 l1] 62)).alloc (by simp) (.cells #[.int .i64 k2, s2, .int .i64 w2, .int .i64 l2] 62))
  have h1 := h.by hw
  have h2 := h'.by hw
  obtain ⟨a, c, rfl⟩ := h.len
  obtain ⟨a', c', rfl⟩ := h'.len
  clear h h' hw
  have g1 := fun w => cmpCompare_any k1 k2 w
  have g2 := fun w h h' => slicesCompare_any (.slice a xs.length c) (.slice a' ys.length c') xs ys w h h'
  have g3 := fun w => cmpCompare_any w1 w2 w
  have g4 := fun w => cmpCompare_any l1 l2 w
  generalize sgn k1 k2 = z1 at *
  generalize lcmp xs ys = z2 at *
  generalize sgn w1 w2 = z3 at *
  generalize sgn l1 l2 = z4 at *
  have HR := Lib.hid hr
  have H1 := Lib.hid g1
  have H2 := Lib.hid g2
  have H3 := Lib.hid g3
  have H4 := Lib.hid g4
  clear hr g1 g2 g3 g4
  go_enter Tryz.func62, Tryz.ntmps62
  go_wp2_with fail
  go_region_held3 (fun w' => (Blk w' (w.heap.size) #[.int .i64 k1, .slice a xs.length c, .int .i64 w1, .int .i64 l1] 62 ∧ ∀ o, w'.cell? ⟨w.heap.size, o, none⟩ = (#[.int .i64 k1, .slice a xs.length c, .int .i64 w1, .int .i64 l1] : Array Value)[o]?) ∧ (Blk w' (w.heap.size + 1) #[.int .i64 k2, .slice a' ys.length c', .int .i64 w2, .int .i64 l2] 62 ∧ ∀ o, w'.cell? ⟨w.heap.size + 1, o, none⟩ = (#[.int .i64 k2, .slice a' ys.length c', .int .i64 w2, .int .i64 l2] : Array Value)[o]?) ∧ Below w.heap.size w w') (((try (obtain ⟨⟨hS0, _⟩, ⟨hS1, _⟩, hSB⟩ := hHeld)); refine ⟨Blk.both ?_, Blk.both ?_, ?_⟩ <;> first | ((repeat (first | (with_reducible assumption) | (with_reducible refine Blk.drewN ?_ _) | (with_reducible refine Blk.drew ?_) | ((with_reducible refine Blk.new _ ?_); focus (first | omega | (simp; done) | (simp; omega))) | (with_reducible refine Blk.past ?_ _) | ((with_reducible refine Blk.apart ?_ _ _ _ ?_); rotate_left; focus (first | omega | (simp; done) | (simp; omega))) | (with_reducible refine Blk.by (by assumption) ?_))); done) | ((repeat (first | (with_reducible exact Below.refl _ _) | (with_reducible refine below_drewN ?_ _) | (with_reducible refine Below.drew ?_) | (with_reducible refine below_al ?_ _) | (with_reducible refine below_on (by assumption) ?_) | ((with_reducible refine Below.setCell ?_ ?_ _); rotate_left; focus (first | omega | (simp; done) | (simp; omega))) | (with_reducible assumption))); done)))
    (first | (go_at_call_of 113 (Value.int .i64 k1); refine (H1.out _).mono ?_; rintro e w' ⟨rfl, rfl⟩) | (go_at_call_of 113 (Value.int .i64 w1); refine (H3.out _).mono ?_; rintro e w' ⟨rfl, rfl⟩) | (go_at_call_of 113 (Value.int .i64 l1); refine (H4.out _).mono ?_; rintro e w' ⟨rfl, rfl⟩) | (go_at_call 114; refine (H2.out _ (h1.by (below_of_drewN _ 1)) (h2.by (below_of_drewN _ 1))).mono ?_; rintro e w' ⟨rfl, m, rfl⟩) | (go_at_call 112; refine (cmpOr_any _ z1 z2 z3 z4 _ (Blk.new _ (by simp))).mono ?_; rintro e w' ⟨rfl, rfl⟩))
  all_goals go_wp2
  all_goals go_ret
  exact ⟨ret_i64 HR.out, blwT⟩
/- Parallel devices, devices in series, first pairs: plain. -/
def curP : List Int → Int
  | [p, _] => p
  | [_, p, _] => p
  | _ => 0
def curQ : List Int → Int
  | [_, q] => q
  | [_, _, q] => q
  | _ => 0
def gateOf : List Int → Int
  | [g, _, _] => g
  | _ => 0
def Shp (x : Dv) : Prop := (x.kind = 2 ∧ ∃ p q, x.pins = [p, q]) ∨ ((x.kind = 0 ∨ x.kind = 1) ∧ ∃ g p q, x.pins = [g, p, q])
theorem shp_of {nets : Int} {x : Dv} (h : dvB nets x = true) : Shp x := by
  obtain ⟨h1, h2, _⟩ := dvB_all h
  have hk := inB_iff.1 h1
  by_cases h2' : x.kind = 2
  · left
    refine ⟨h2', ?_⟩
    simp only [pinsOf, h2', if_pos] at h2
    match hp : x.pins, h2 with
    | [p, q], _ => exact ⟨p, q, rfl⟩
  · right
    refine ⟨by omega, ?_⟩
    simp only [pinsOf, if_neg h2'] at h2
    match hp : x.pins, h2 with
    | [g, p, q], _ => exact ⟨g, p, q, rfl⟩
theorem lcmp_zero : ∀ (a b : List Int), lcmp a b = 0 ↔ a = b
  | [], [] => by simp [lcmp]
  | [], _ :: _ => by simp [lcmp]
  | _ :: _, [] => by simp [lcmp]
  | a :: r, b :: s => by
    have ih := lcmp_zero r s
    unfold lcmp
    by_cases h : sgn a b = 0
    · rw [if_pos h, ih]
      have hab : a = b := by
        unfold sgn at h
        split at h
        · omega
        · split at h
          · omega
          · omega
      simp [hab]
    · rw [if_neg h]
      have hab : a ≠ b := fun e => h (sgn_eq e)
      simp [hab, h]
/- Current pins, gates: contracts. -/
theorem IntSl.two {w : World} {sv : Value} {p q : Int} (h : IntSl w sv [p, q]) : ∃ b off cap, sv = .slice (some ⟨b, off, none⟩) 2 cap ∧ w.cell? ⟨b, off, none⟩ = some (.int .i64 p) ∧ w.cell? ⟨b, off + 1, none⟩ = some (.int .i64 q) ∧ b < w.heap.size := by
  rcases h with ⟨_, _, _, h2⟩ | ⟨b, off, cap, hsv, h2, h3, h4⟩
  · simp at h2
  simp only [List.length_cons, List.length_nil, Nat.zero_add, Nat.reduceAdd] at hsv
  have hp : w.cell? ⟨b, off, none⟩ = some (.int .i64 p) := by have := h4 0 p rfl; simpa using this
  have hq : w.cell? ⟨b, off + 1, none⟩ = some (.int .i64 q) := by have := h4 1 q rfl; simpa using this
  refine ⟨b, off, cap, hsv, hp, hq, ?_⟩
  rcases Nat.lt_or_ge b w.heap.size with h' | h'
  · exact h'
  · simp [World.cell?, Array.getElem?_eq_none h'] at hp
theorem IntSl.three {w : World} {sv : Value} {g p q : Int} (h : IntSl w sv [g, p, q]) : ∃ b off cap, sv = .slice (some ⟨b, off, none⟩) 3 cap ∧ w.cell? ⟨b, off, none⟩ = some (.int .i64 g) ∧ w.cell? ⟨b, off + 1, none⟩ = some (.int .i64 p) ∧ w.cell? ⟨b, off + 2, none⟩ = some (.int .i64 q) ∧ b < w.heap.size := by
  rcases h with ⟨_, _, _, h2⟩ | ⟨b, off, cap, hsv, h2, h3, h4⟩
  · simp at h2
  simp only [List.length_cons, List.length_nil, Nat.zero_add, Nat.reduceAdd] at hsv
  have hg : w.cell? ⟨b, off, none⟩ = some (.int .i64 g) := by have := h4 0 g rfl; simpa using this
  have hp : w.cell? ⟨b, off + 1, none⟩ = some (.int .i64 p) := by have := h4 1 p rfl; simpa using this
  have hq : w.cell? ⟨b, off + 2, none⟩ = some (.int .i64 q) := by have := h4 2 q rfl; simpa using this
  refine ⟨b, off, cap, hsv, hg, hp, hq, ?_⟩
  rcases Nat.lt_or_ge b w.heap.size with h' | h'
  · exact h'
  · simp [World.cell?, Array.getElem?_eq_none h'] at hp
set_option maxRecDepth 100000 in
set_option maxHeartbeats 1000000 in
theorem currentPins_any (x : Dv) (sv : Value) (w : World) (h : IntSl w sv x.pins) (hs : Shp x) :
    Calls Tryz.prog 175 #[.agg #[.int .i64 x.kind, sv, .int .i64 x.wd, .int .i64 x.len]] w fun e w' => e = .returned (.tuple #[.int .i64 (curP x.pins), .int .i64 (curQ x.pins)]) ∧ Below w.heap.size w w' := by
  obtain ⟨kind, pins, wd, len⟩ := x
  dsimp only at h ⊢
  rcases hs with ⟨_, p, q, hp⟩ | ⟨_, g, p, q, hp⟩
  · dsimp only at hp; subst hp
    obtain ⟨b, off, cap, rfl, c0, c1, hb⟩ := h.two
    clear h
    simp only [curP, curQ]
    go_enter Tryz.func175, Tryz.ntmps175
    go_wp2
    go_quiet (fail)
    go_wp2
    go_ret2
    exact ⟨rfl, blwT⟩
  · dsimp only at hp; subst hp
    obtain ⟨b, off, cap, rfl, c0, c1, c2, hb⟩ := h.three
    clear h
    simp only [curP, curQ]
    go_enter Tryz.func175, Tryz.ntmps175
    go_wp2
    go_quiet (fail)
    go_wp2
    go_ret2
    exact ⟨rfl, blwT⟩
/- Parallel devices: contracts. -/
def dgF : Nat → Nat → ByteArray → ByteArray
  | 0, _, s => s
  | f + 1, k, s => if k = 0 then s else dgF f (k / 10) (strOfNums [((48 + k % 10 : Nat) : Int)] ++ s)
def mtxt (k : Nat) : ByteArray := ⟨#[109]⟩ ++ dgF k k ⟨#[]⟩
theorem size_one (v : Int) : (strOfNums [v]).size = 1 := by simp [strOfNums, ByteArray.size]
theorem dgF_end (f : Nat) (s : ByteArray) : dgF f 0 s = s := by cases f <;> simp [dgF]
theorem dgF_step (f k : Nat) (s : ByteArray) (h : 0 < k) (hf : k ≤ f) : ∃ f', k / 10 ≤ f' ∧ dgF f k s = dgF f' (k / 10) (strOfNums [((48 + k % 10 : Nat) : Int)] ++ s) := by
  cases f with
  | zero => omega
  | succ f =>
    refine ⟨f, by omega, ?_⟩
    have : ¬ k = 0 := by omega
    simp [dgF, this]
set_option maxRecDepth 100000 in
set_option maxHeartbeats 1000000 in
theorem markText_any (k : Nat) (w : World) (hk : 0 < k) (hk' : k ≤ 1000000000000) :
    Calls Tryz.prog 98 #[.int .i64 (k : Int)] w fun e w' => e = .returned (.string (mtxt k)) ∧ Below w.heap.size w w' := by
  have hcv : ∀ (W : World) (v : Int), (convert 49 9 (.slice (some ⟨W.heap.size, 0, none⟩) 1 1)).run Tryz.prog (W.alloc (.cells #[.int .u8 v] 5)) = .ok (.string (strOfNums [v])) (W.alloc (.cells #[.int .u8 v] 5)) := by
    intro W v
    have hcell : ∀ i, i < 1 → (W.alloc (.cells #[.int .u8 v] 5)).cell? ⟨W.heap.size, 0 + i, none⟩ = some (.int .u8 ([v].getD i 0)) := by
      intro i hi
      obtain rfl : i = 0 := by omega
      rw [(Blk.new W.heap.size rfl).cell]; rfl
    exact run_convert_bytes_arg _ 49 5 Tryz.underlying49 Tryz.underlying5 W.heap.size 0 1 1 [v] rfl hcell 9 Tryz.underlying9
  have HM := Lib.hid (show mtxt k = ⟨#[109]⟩ ++ dgF k k ⟨#[]⟩ from rfl)
  obtain ⟨R, hR⟩ : ∃ R, dgF k k ⟨#[]⟩ = R := ⟨_, rfl⟩
  have HR := Lib.hid hR
  rw [hR] at HM
  clear hR
  generalize mtxt k = mt at *
  have hk0 : decide (k = 0) = false := by rw [decide_eq_false_iff_not]; omega
  go_enter Tryz.func98, Tryz.ntmps98
  go_wp2
  go_loopw [0, 3] (fun a s wr => ∃ (j f : Nat) (t : ByteArray), a = .int .i64 (j : Int) ∧ j ≤ k ∧ s = .string t ∧ t.size + j ≤ k ∧ Hid (j ≤ f ∧ dgF f j t = R) ∧ Below w.heap.size w wr) (fun a _ _ => (intOf a).toNat)
  case atStart => exact ⟨k, k, ⟨#[]⟩, rfl, Nat.le_refl _, rfl, by simp [ByteArray.size], Lib.hid ⟨Nat.le_refl _, HR.out⟩, blwT⟩
  case round =>
    obtain ⟨j, f, t, rfl, hjk, rfl, hts, HI, hb⟩ := hrel
    by_cases hj : 0 < j
    · have h1 : (0 : Int) ≤ (j : Int) % 10 := by omega
      have h2 : (j : Int) % 10 < 10 := by omega
      have hw : IntKind.u8.wrap (48 + (j : Int) % 10) = 48 + (j : Int) % 10 := by simp [IntKind.wrap, IntKind.bits, IntKind.signed]; omega
      have hs1 : (strOfNums [48 + (j : Int) % 10]).size + t.size ≤ 9223372036854775807 := by rw [size_one]; omega
      have hs2 : ¬ 9223372036854775807 < (strOfNums [48 + (j : Int) % 10]).size + t.size := by omega
      go_wp2
      obtain ⟨f', hf', he⟩ := dgF_step f j t hj HI.out.1
      refine ⟨⟨j / 10, f', strOfNums [48 + (j : Int) % 10] ++ t, by simp, by omega, rfl, by rw [ByteArray.size_append, size_one]; omega, Lib.hid ⟨hf', ?_⟩, blwT⟩, by simp [intOf]; omega⟩
      have := HI.out.2
      rw [he] at this
      rw [← this]
      congr 3
    · obtain rfl : j = 0 := by omega
      have hs2 : ¬ 9223372036854775807 < 1 + t.size := by omega
      go_wp2
      go_ret
      exact ⟨by rw [HM.out, ← HI.out.2, dgF_end]; rfl, hb⟩
/- Slices of devices and of ports in memory of the call's own. -/
def OwnDs (w : World) (lo hi : Nat) (sv : Value) (ds : List Dv) : Prop :=
  (∃ a c, sv = .slice a 0 c ∧ ds = []) ∨ ∃ (g cap : Nat) (cs : Array Value) (f : Nat → Nat), sv = .slice (some ⟨g, 0, none⟩) ds.length cap ∧ (lo ≤ g ∧ g < hi) ∧ ds.length ≤ cap ∧ cap ≤ maxLen ∧ Blk w g cs 62 ∧
    (∀ (i : Nat) (x : Dv), ds[i]? = some x → (∃ pv, Cs4 cs i (.int .i64 x.kind) pv (.int .i64 x.wd) (.int .i64 x.len) ∧ OwnR w (f i) (f i + 1) pv x.pins) ∧ (lo ≤ f i ∧ f i < hi ∧ f i ≠ g)) ∧ (∀ i j, i < ds.length → j < ds.length → i ≠ j → f i ≠ f j)
def OwnPs (w : World) (lo hi : Nat) (sv : Value) (ps : List Pt) : Prop :=
  (∃ a c, sv = .slice a 0 c ∧ ps = []) ∨ ∃ (g cap : Nat) (cs : Array Value), sv = .slice (some ⟨g, 0, none⟩) ps.length cap ∧ (lo ≤ g ∧ g < hi) ∧ ps.length ≤ cap ∧ cap ≤ maxLen ∧ Blk w g cs 98 ∧
    (∀ (i : Nat) (x : Pt), ps[i]? = some x → Cs2 cs i (.string x.name) (.int .i64 x.net))
section
variable {w w' : World} {lo hi lo' hi' : Nat} {sv : Value} {ds : List Dv} {ps : List Pt}
theorem OwnDs.by (hb : Below w.heap.size w w') (h : OwnDs w lo hi sv ds) : OwnDs w' lo hi sv ds := by
  rcases h with h | ⟨g, cap, cs, f, h1, h2, h3, h4, h5, h6, h7⟩
  · exact .inl h
  · refine .inr ⟨g, cap, cs, f, h1, h2, h3, h4, Blk.by hb h5, fun i x hx => ?_, h7⟩
    obtain ⟨⟨pv, a, b⟩, c⟩ := h6 i x hx
    exact ⟨⟨pv, a, OwnR.by hb b⟩, c⟩
theorem OwnPs.by (hb : Below w.heap.size w w') (h : OwnPs w lo hi sv ps) : OwnPs w' lo hi sv ps := by
  rcases h with h | ⟨g, cap, cs, h1, h2, h3, h4, h5, h6⟩
  · exact .inl h
  · exact .inr ⟨g, cap, cs, h1, h2, h3, h4, Blk.by hb h5, h6⟩
theorem OwnDs.past (hb : Within lo' hi' w w') (h : OwnDs w lo hi sv ds) (hd : hi ≤ lo' ∨ hi' ≤ lo) : OwnDs w' lo hi sv ds := by
  rcases h with h | ⟨g, cap, cs, f, h1, h2, h3, h4, h5, h6, h7⟩
  · exact .inl h
  · refine .inr ⟨g, cap, cs, f, h1, h2, h3, h4, hb.blk h5 (by omega), fun i x hx => ?_, h7⟩
    obtain ⟨⟨pv, a, b⟩, c⟩ := h6 i x hx
    exact ⟨⟨pv, a, OwnR.past hb b (by omega)⟩, c⟩
theorem OwnPs.past (hb : Within lo' hi' w w') (h : OwnPs w lo hi sv ps) (hd : hi ≤ lo' ∨ hi' ≤ lo) : OwnPs w' lo hi sv ps := by
  rcases h with h | ⟨g, cap, cs, h1, h2, h3, h4, h5, h6⟩
  · exact .inl h
  · exact .inr ⟨g, cap, cs, h1, h2, h3, h4, hb.blk h5 (by omega), h6⟩
theorem OwnDs.wide (h : OwnDs w lo hi sv ds) (h1 : lo' ≤ lo) (h2 : hi ≤ hi') : OwnDs w lo' hi' sv ds := by
  rcases h with h | ⟨g, cap, cs, f, e1, e2, e3, e4, e5, e6, e7⟩
  · exact .inl h
  · refine .inr ⟨g, cap, cs, f, e1, by omega, e3, e4, e5, fun i x hx => ?_, e7⟩
    obtain ⟨a, b⟩ := e6 i x hx
    exact ⟨a, by omega⟩
theorem OwnPs.wide (h : OwnPs w lo hi sv ps) (h1 : lo' ≤ lo) (h2 : hi ≤ hi') : OwnPs w lo' hi' sv ps := by
  rcases h with h | ⟨g, cap, cs, e1, e2, e3, e4, e5, e6⟩
  · exact .inl h
  · exact .inr ⟨g, cap, cs, e1, by omega, e3, e4, e5, e6⟩
theorem OwnDs.sl (h : OwnDs w lo hi sv ds) : DvSl w sv ds := by
  rcases h with h | ⟨g, cap, cs, f, h1, h2, h3, h4, h5, h6, h7⟩
  · exact .inl h
  · refine .inr ⟨g, 0, cap, h1, h3, h4, fun i x hx => ?_⟩
    obtain ⟨⟨pv, ⟨e1, e2, e3, e4⟩, b⟩, c⟩ := h6 i x hx
    have hc := h5.cell
    simp only [Nat.zero_add]
    exact ⟨pv, by rw [hc]; exact e1, by rw [hc]; exact e2, by rw [hc]; exact e3, by rw [hc]; exact e4, b.sl⟩
theorem OwnPs.sl (h : OwnPs w lo hi sv ps) : PtSl w sv ps := by
  rcases h with h | ⟨g, cap, cs, h1, h2, h3, h4, h5, h6⟩
  · exact .inl h
  · refine .inr ⟨g, 0, cap, h1, h3, h4, fun i x hx => ?_⟩
    obtain ⟨e1, e2⟩ := h6 i x hx
    have hc := h5.cell
    simp only [Nat.zero_add]
    exact ⟨by rw [hc]; exact e1, by rw [hc]; exact e2⟩
end
def dsum : List Dv → Int
  | [] => 0
  | d :: ds => 3 + d.pins.length + dsum ds
theorem dsum_nonneg : ∀ ds : List Dv, 0 ≤ dsum ds
  | [] => by simp [dsum]
  | d :: ds => by have := dsum_nonneg ds; simp only [dsum]; omega
theorem dsum_take (ds : List Dv) (k : Nat) (d : Dv) (h : ds[k]? = some d) : dsum (ds.take (k + 1)) = dsum (ds.take k) + (3 + d.pins.length) := by
  induction ds generalizing k with
  | nil => simp at h
  | cons y ys ih =>
    cases k with
    | zero => simp at h; subst h; simp [dsum]
    | succ k => simp at h; have := ih k h; simp only [List.take_succ_cons, dsum]; omega
theorem dsum_mono (ds : List Dv) (k : Nat) : dsum (ds.take k) ≤ dsum ds := by
  induction ds generalizing k with
  | nil => simp
  | cons y ys ih =>
    cases k with
    | zero => simp [dsum]; have := dsum_nonneg ys; omega
    | succ k => have := ih k; simp only [List.take_succ_cons, dsum]; omega
def mkd (k : Int) (n : Nat) : Dv := ⟨k, marks (k + 1) n, k + 1 + n, k + 2 + n⟩
def markDs (k : Int) : List Dv → List Dv
  | [] => []
  | d :: ds => mkd k d.pins.length :: markDs (k + (3 + d.pins.length)) ds
theorem length_markDs (k : Int) (ds : List Dv) : (markDs k ds).length = ds.length := by
  induction ds generalizing k with
  | nil => rfl
  | cons d ds ih => simp [markDs, ih]
theorem markDs_get (k : Int) (ds : List Dv) (i : Nat) (d : Dv) (h : ds[i]? = some d) : (markDs k ds)[i]? = some (mkd (k + dsum (ds.take i)) d.pins.length) := by
  induction ds generalizing k i with
  | nil => simp at h
  | cons y ys ih =>
    cases i with
    | zero => simp at h; subst h; simp [markDs, dsum]
    | succ i =>
      simp at h
      simp only [markDs, List.getElem?_cons_succ, List.take_succ_cons, dsum]
      rw [ih _ i h]; congr 2; omega
theorem markDs_inv (k : Int) (ds : List Dv) (i : Nat) (y : Dv) (h : (markDs k ds)[i]? = some y) : ∃ d, ds[i]? = some d ∧ y = mkd (k + dsum (ds.take i)) d.pins.length := by
  have hi : i < ds.length := by have := (List.getElem?_eq_some_iff.1 h).1; rwa [length_markDs] at this
  refine ⟨ds[i], List.getElem?_eq_getElem hi, ?_⟩
  rw [markDs_get k ds i ds[i] (List.getElem?_eq_getElem hi)] at h
  exact (Option.some.inj h).symm
/- markDeviceS and heldDeviceS. -/
theorem Within.sub {lo hi lo' hi' : Nat} {w w' : World} (h : Within lo hi w w') (h1 : lo' ≤ lo) (h2 : hi ≤ hi') : Within lo' hi' w w' := ⟨h.os, h.tape, h.output, h.size, fun k hk hk' => h.block k hk (by omega)⟩
def set3 (cs : Array Value) (k : Nat) (u v z : Value) : Array Value := ((cs.setIfInBounds (k * 4) u).setIfInBounds (k * 4 + 2) v).setIfInBounds (k * 4 + 3) z
theorem set3_other {cs : Array Value} {j k : Nat} {a b c d : Value} (u v z : Value) (hne : j ≠ k) (h : Cs4 cs j a b c d) : Cs4 (set3 cs k u v z) j a b c d := by
  obtain ⟨h1, h2, h3, h4⟩ := h
  refine ⟨?_, ?_, ?_, ?_⟩ <;> simp only [set3, Array.getElem?_setIfInBounds, Array.size_setIfInBounds] <;> (repeat rw [if_neg (by omega)]) <;> assumption
theorem set3_same {cs : Array Value} {k : Nat} {b : Value} (u v z : Value) (hb : cs[k * 4 + 1]? = some b) (hs : k * 4 + 3 < cs.size) : Cs4 (set3 cs k u v z) k u b v z := by
  refine ⟨?_, ?_, ?_, ?_⟩ <;> simp only [set3, Array.getElem?_setIfInBounds, Array.size_setIfInBounds] <;> repeat (first | rw [if_pos trivial] | rw [if_pos (by omega)] | rw [if_neg (by omega)] | assumption)
set_option maxRecDepth 100000 in
set_option maxHeartbeats 4000000 in
theorem markDeviceS_any (lo hi : Nat) (sv : Value) (ds : List Dv) (k0 : Int) (w : World) (h : OwnDs w lo hi sv ds) (hpn : ∀ d ∈ ds, d.pins.length ≤ 1048576) (hk : 0 ≤ k0) (hk' : k0 + dsum ds ≤ 1000000000000) :
    Calls Tryz.prog 49 #[sv, .int .i64 k0] w fun e w' => e = .returned (.int .i64 (k0 + dsum ds)) ∧ OwnDs w' lo hi sv (markDs k0 ds) ∧ Within lo hi w w' := by
  rcases h with ⟨a, c, rfl, rfl⟩ | ⟨g, cap, cs0, f, rfl, hg, hcap, hmax, hB0, hel, hinj⟩
  · go_enter Tryz.func49, Tryz.ntmps49
    go_wp2
    go_loopw [1, 5] (fun v i wr => i = .int .i64 0 ∧ v = .int .i64 k0 ∧ wr = w) (fun _ _ _ => 0)
    case atStart => exact ⟨rfl, rfl, rfl⟩
    case round =>
      obtain ⟨rfl, rfl, rfl⟩ := hrel
      go_wp2
      go_ret
      exact ⟨ret_i64 (by simp [dsum]), .inl ⟨_, _, rfl, rfl⟩, Within.refl _ _ _⟩
  · unfold maxLen at hmax
    have HPN := Lib.hid hpn
    have HEL := Lib.hid hel
    have HINJ := Lib.hid hinj
    have HDT := Lib.hid (dsum_take ds)
    have HDM := Lib.hid (dsum_mono ds)
    have HD0 := Lib.hid (fun k => dsum_nonneg (ds.take k))
    have HDF := Lib.hid (show dsum (ds.take ds.length) = dsum ds by rw [List.take_length])
    have HM := Lib.hid (markDs_inv k0 ds)
    have HLM := Lib.hid (length_markDs k0 ds)
    clear hpn hel hinj
    go_enter Tryz.func49, Tryz.ntmps49
    go_wp2
    go_loopw [1, 5] (fun v i wr => ∃ k : Nat, k ≤ ds.length ∧ i = .int .i64 k ∧ (∃ s : Int, v = .int .i64 s ∧ s = k0 + dsum (ds.take k)) ∧
      (∃ cs : Array Value, Blk wr g cs 62 ∧ Hid (∀ (j : Nat) (x : Dv), ds[j]? = some x → (j < k → ∃ pv, Cs4 cs j (.int .i64 (k0 + dsum (ds.take j))) pv (.int .i64 (k0 + dsum (ds.take j) + 1 + x.pins.length)) (.int .i64 (k0 + dsum (ds.take j) + 2 + x.pins.length)) ∧ OwnR wr (f j) (f j + 1) pv (marks (k0 + dsum (ds.take j) + 1) x.pins.length)) ∧ (k ≤ j → ∃ pv, Cs4 cs j (.int .i64 x.kind) pv (.int .i64 x.wd) (.int .i64 x.len) ∧ OwnR wr (f j) (f j + 1) pv x.pins))) ∧ Within lo hi w wr) (fun _ i _ => ds.length - (intOf i).toNat)
    case atStart => exact ⟨0, Nat.zero_le _, rfl, ⟨k0, rfl, by simp [dsum]⟩, ⟨cs0, hB0, Lib.hid (fun j x hx => ⟨fun h => by omega, fun _ => (HEL.out j x hx).1⟩)⟩, Within.refl _ _ _⟩
    case round =>
      obtain ⟨k, hkl, rfl, ⟨s, rfl, hs⟩, ⟨cs, hB, HO⟩, ho⟩ := hrel
      by_cases hlt : k < ds.length
      · obtain ⟨x, hx⟩ : ∃ x, ds[k]? = some x := ⟨ds[k], List.getElem?_eq_getElem hlt⟩
        have hxl : x.pins.length ≤ 1048576 := HPN.out x (List.mem_of_getElem? hx)
        obtain ⟨pv, ⟨c0, c1, c2, c3⟩, hOR⟩ := (HO.out k x hx).2 (Nat.le_refl _)
        obtain ⟨hf1, hf2, hf3⟩ := (HEL.out k x hx).2
        have hst := HDT.out k x hx
        have hsm := HDM.out (k + 1)
        have hs0 := HD0.out k
        have HX := Lib.hid hx
        have HS := Lib.hid hs
        have HST := Lib.hid hst
        have hsb : 0 ≤ s := by omega
        have hsb' : s + 3 + x.pins.length ≤ 1000000000000 := by omega
        have HMK := Lib.hid (fun w h => markR_any (f k) (f k + 1) pv x.pins (s + 1) w h hxl (by omega) (by omega))
        have hBf := hB.free
        have hBc := hB.cell
        have hz : k * 4 + 3 < cs.size := (Array.getElem?_eq_some_iff.1 c3).1
        have i1 : (0 : Int) ≤ (k : Int) := by omega
        have i2 : (k : Int) < (ds.length : Int) := by omega
        have HOR := Lib.hid hOR
        obtain ⟨ap, cp, rfl⟩ := hOR.sl.len
        obtain ⟨t, ht⟩ : ∃ t : Int, s + 1 + x.pins.length = t := ⟨_, rfl⟩
        rw [ht] at HMK
        have HT := Lib.hid ht
        have ht0 : 0 ≤ t := by omega
        have ht1 : t + 2 ≤ 1000000000000 := by omega
        have hb1 := hB.set (k * 4) (.int .i64 s)
        have hO1 : OwnR (wr.setCell ⟨g, k * 4, none⟩ (.int .i64 s)) (f k) (f k + 1) (.slice ap x.pins.length cp) x.pins := HOR.out.past (Within.set (Within.refl g (g + 1) wr) g (k * 4) (.int .i64 s) (Nat.le_refl _) (by omega)) (by omega)
        have HO1 := Lib.hid hO1
        clear hx hs hst hOR hO1 ht
        go_wp2_with fail
        refine (HMK.out _ HO1.out).mono ?_
        rintro e w1 ⟨rfl, hO2, hw1⟩
        have hb2 := hw1.blk hb1 (by omega)
        have e2 := hb2.cell
        have f2 := hb2.free
        have HO2 := Lib.hid hO2
        have HW1 := Lib.hid hw1
        clear hO2 hw1 hBc hBf
        go_wp2
        have w3 : Within lo hi w (w1.setCell ⟨g, k * 4 + 2, none⟩ (.int .i64 t)) := ((ho.set g (k * 4) (.int .i64 s) hg.1 hg.2).on (HW1.out.sub hf1 (by omega))).set g _ _ hg.1 hg.2
        have hmv : ∀ (j : Nat) (pv : Value) (zs : List Int), j < ds.length → j ≠ k → f j ≠ g → OwnR wr (f j) (f j + 1) pv zs → OwnR ((w1.setCell ⟨g, k * 4 + 2, none⟩ (.int .i64 t)).setCell ⟨g, k * 4 + 3, none⟩ (.int .i64 (t + 1))) (f j) (f j + 1) pv zs := by
          intro j pv zs hj hjk hjg hR
          have hne := HINJ.out j k hj hlt hjk
          have r1 := hR.past (Within.set (Within.refl g (g + 1) wr) g (k * 4) (.int .i64 s) (Nat.le_refl _) (by omega)) (by omega)
          have r2 := r1.past HW1.out (by omega)
          have r3 := r2.past (Within.set (Within.refl g (g + 1) w1) g (k * 4 + 2) (.int .i64 t) (Nat.le_refl _) (by omega)) (by omega)
          exact r3.past (Within.set (Within.refl g (g + 1) _) g (k * 4 + 3) (.int .i64 (t + 1)) (Nat.le_refl _) (by omega)) (by omega)
        refine ⟨⟨k + 1, by omega, by go_num, ⟨t + 1 + 1, rfl, by have := HS.out; have := HST.out; have := HT.out; omega⟩, ⟨set3 cs k (.int .i64 s) (.int .i64 t) (.int .i64 (t + 1)), (hb2.set _ _).set _ _, Lib.hid (fun j y hy => ⟨fun hj => ?_, fun hj => ?_⟩)⟩, w3.set g _ _ hg.1 hg.2⟩, by simp [intOf]; omega⟩
        · have hjl : j < ds.length := (List.getElem?_eq_some_iff.1 hy).1
          by_cases hjk : j = k
          · subst hjk
            obtain rfl : y = x := Option.some.inj (hy.symm.trans HX.out)
            have e1 := HS.out
            have e2 := HT.out
            rw [← e1]
            have e3 : s + 1 + (y.pins.length : Int) = t := e2
            have e4 : s + 2 + (y.pins.length : Int) = t + 1 := by omega
            rw [e3, e4]
            refine ⟨.slice ap y.pins.length cp, set3_same _ _ _ c1 hz, ?_⟩
            have r3 := HO2.out.past (Within.set (Within.refl g (g + 1) w1) g (j * 4 + 2) (.int .i64 t) (Nat.le_refl _) (by omega)) (by omega)
            exact r3.past (Within.set (Within.refl g (g + 1) _) g (j * 4 + 3) (.int .i64 (t + 1)) (Nat.le_refl _) (by omega)) (by omega)
          · obtain ⟨pv, hC, hR⟩ := (HO.out j y hy).1 (by omega)
            exact ⟨pv, set3_other _ _ _ hjk hC, hmv j pv _ hjl hjk (HEL.out j y hy).2.2.2 hR⟩
        · have hjl : j < ds.length := (List.getElem?_eq_some_iff.1 hy).1
          have hjk : j ≠ k := by omega
          obtain ⟨pv, hC, hR⟩ := (HO.out j y hy).2 (by omega)
          exact ⟨pv, set3_other _ _ _ hjk hC, hmv j pv _ hjl hjk (HEL.out j y hy).2.2.2 hR⟩
      · obtain rfl : k = ds.length := by omega
        go_wp2
        go_ret
        refine ⟨ret_i64 (by rw [hs, HDF.out]), .inr ⟨g, cap, cs, f, by rw [HLM.out], hg, by rw [HLM.out]; exact hcap, by unfold maxLen; exact hmax, hB, fun i y hy => ?_, fun i j hi hj hij => HINJ.out i j (by rwa [HLM.out] at hi) (by rwa [HLM.out] at hj) hij⟩, ho⟩
        obtain ⟨d, hd, rfl⟩ := HM.out i y hy
        obtain ⟨pv, hC, hR⟩ := (HO.out i d hd).1 (List.getElem?_eq_some_iff.1 hd).1
        exact ⟨⟨pv, hC, hR⟩, (HEL.out i d hd).2⟩
/- markPortS and heldPortS. -/
def markPs (k n : Nat) : List Pt := (List.range n).map fun i => ⟨mtxt (k + 2 * i), ((k + 2 * i + 1 : Nat) : Int)⟩
theorem length_markPs (k n : Nat) : (markPs k n).length = n := by simp [markPs]
theorem markPs_get (k n i : Nat) (h : i < n) : (markPs k n)[i]? = some ⟨mtxt (k + 2 * i), ((k + 2 * i + 1 : Nat) : Int)⟩ := by simp [markPs, h]
set_option maxRecDepth 100000 in
set_option maxHeartbeats 4000000 in
theorem markPortS_any (lo hi : Nat) (sv : Value) (ps : List Pt) (k0 : Nat) (w : World) (h : OwnPs w lo hi sv ps) (hlw : hi ≤ w.heap.size) (hk : 0 < k0) (hk' : k0 + 2 * ps.length ≤ 1000000000000) :
    Calls Tryz.prog 50 #[sv, .int .i64 (k0 : Int)] w fun e w' => e = .returned (.int .i64 ((k0 + 2 * ps.length : Nat) : Int)) ∧ OwnPs w' lo hi sv (markPs k0 ps.length) ∧ Within lo hi w w' := by
  rcases h with ⟨a, c, rfl, rfl⟩ | ⟨g, cap, cs0, rfl, hg, hcap, hmax, hB0, hel⟩
  · go_enter Tryz.func50, Tryz.ntmps50
    go_wp2
    go_loopw [1, 5] (fun v i wr => i = .int .i64 0 ∧ v = .int .i64 (k0 : Int) ∧ wr = w) (fun _ _ _ => 0)
    case atStart => exact ⟨rfl, rfl, rfl⟩
    case round =>
      obtain ⟨rfl, rfl, rfl⟩ := hrel
      go_wp2
      go_ret
      exact ⟨ret_i64 (by simp), .inl ⟨_, _, rfl, by simp [markPs]⟩, Within.refl _ _ _⟩
  · unfold maxLen at hmax
    have HEL := Lib.hid hel
    clear hel
    go_enter Tryz.func50, Tryz.ntmps50
    go_wp2
    go_loopw [1, 5] (fun v i wr => ∃ k : Nat, k ≤ ps.length ∧ i = .int .i64 k ∧ v = .int .i64 ((k0 + 2 * k : Nat) : Int) ∧
      (∃ cs : Array Value, Blk wr g cs 98 ∧ cs.size = cs0.size ∧ Hid (∀ (j : Nat), j < k → Cs2 cs j (.string (mtxt (k0 + 2 * j))) (.int .i64 ((k0 + 2 * j + 1 : Nat) : Int)))) ∧ Within lo hi w wr) (fun _ i _ => ps.length - (intOf i).toNat)
    case atStart => exact ⟨0, Nat.zero_le _, rfl, by simp, ⟨cs0, hB0, rfl, Lib.hid (fun j h => by omega)⟩, Within.refl _ _ _⟩
    case round =>
      obtain ⟨k, hkl, rfl, rfl, ⟨cs, hB, hsz, HO⟩, ho⟩ := hrel
      by_cases hlt : k < ps.length
      · obtain ⟨x, hx⟩ : ∃ x, ps[k]? = some x := ⟨ps[k], List.getElem?_eq_getElem hlt⟩
        obtain ⟨c0, c1⟩ := HEL.out k x hx
        have hz : k * 2 + 1 < cs.size := by rw [hsz]; exact (Array.getElem?_eq_some_iff.1 c1).1
        have HMT := Lib.hid (fun w => markText_any (k0 + 2 * k) w (by omega) (by omega))
        have HSZ := Lib.hid hsz
        obtain ⟨s, hs⟩ : ∃ s : Nat, k0 + 2 * k = s := ⟨_, rfl⟩
        rw [hs] at HMT ⊢
        have HS := Lib.hid hs
        have hs1 : s + 2 ≤ 1000000000000 := by omega
        obtain ⟨u0_, d0⟩ : ∃ u, cs[k * 2]? = some u := ⟨_, Array.getElem?_eq_getElem (by omega)⟩
        obtain ⟨u1_, d1⟩ : ∃ u, cs[k * 2 + 1]? = some u := ⟨_, Array.getElem?_eq_getElem (by omega)⟩
        have i1 : (0 : Int) ≤ (k : Int) := by omega
        have i2 : (k : Int) < (ps.length : Int) := by omega
        have hsl := ho.size
        clear hx hs hsz c0 c1
        generalize hmt : mtxt s = mt at *
        have HMM := Lib.hid hmt
        clear hmt
        go_wp2_with fail
        refine (HMT.out _).mono ?_
        rintro e w1 ⟨rfl, hb1⟩
        have hb2 := Blk.by hb1 hB
        have e2 := hb2.cell
        have f2 := hb2.free
        have ho1 : Within lo hi w w1 := ho.on ⟨hb1.os, hb1.tape, hb1.output, hb1.size, fun k hk _ => hb1.block k hk⟩
        clear hb1 hB
        go_wp2
        refine ⟨⟨k + 1, by omega, by go_num, by have := HS.out; congr 1; omega, ⟨put2 cs k (.string mt) (.int .i64 ((s : Int) + 1)), (hb2.set _ _).set _ _, by rw [size_put2]; exact HSZ.out, Lib.hid (fun j hj => ?_)⟩, (ho1.set g _ _ hg.1 hg.2).set g _ _ hg.1 hg.2⟩, by simp [intOf]; omega⟩
        by_cases hjk : j = k
        · subst hjk
          rw [HS.out, HMM.out]
          exact put2_same cs j _ _ (by omega)
        · exact put2_other cs k j _ _ _ _ hjk (HO.out j (by omega))
      · obtain rfl : k = ps.length := by omega
        go_wp2
        go_ret
        refine ⟨rfl, .inr ⟨g, cap, cs, by rw [length_markPs], hg, by rw [length_markPs]; exact hcap, by unfold maxLen; exact hmax, hB, fun i y hy => ?_⟩, ho⟩
        have hi : i < ps.length := by have := (List.getElem?_eq_some_iff.1 hy).1; rwa [length_markPs] at this
        rw [markPs_get k0 _ i hi] at hy
        cases hy
        exact HO.out i hi
/- toDeviceS, toPortS, toNetlist: with the memory of the call's own; marking netlists. -/
set_option maxRecDepth 100000 in
set_option maxHeartbeats 2000000 in
theorem toDeviceS_own (sv : Value) (xs : List Dv) (w : World) (h : DvSl w sv xs) (hn : xs.length ≤ 1048576) (hpn : ∀ x ∈ xs, x.pins.length ≤ 1048576) :
    Calls Tryz.prog 38 #[sv] w fun e w' => ∃ v, e = .returned v ∧ OwnDs w' w.heap.size w'.heap.size v xs ∧ Below w.heap.size w w' := by
  rcases h with ⟨a, c, rfl, rfl⟩ | ⟨b, off, cap, rfl, h2, h3, h4⟩
  · obtain ⟨cs, hcs, hmk⟩ := make_dev 0 (by omega) w
    simp only [Int.natCast_zero] at hmk
    go_enter Tryz.func38, Tryz.ntmps38
    go_wp2
    go_loopw [4] (fun i wr => i = .int .i64 0 ∧ Blk wr w.heap.size cs 62 ∧ Below w.heap.size w wr) (fun _ _ => 0)
    case atStart => exact ⟨rfl, blkT, blwT⟩
    case round =>
      obtain ⟨rfl, hx, hb⟩ := hrel
      go_wp2
      go_ret
      exact ⟨_, rfl, .inl ⟨_, _, rfl, rfl⟩, hb⟩
  · obtain ⟨cs0, hcs0, hmk⟩ := make_dev xs.length hn w
    unfold maxLen at h3
    go_enter Tryz.func38, Tryz.ntmps38
    go_wp2
    clear hmk
    go_loopw [4] (fun i wr => ∃ k : Nat, k ≤ xs.length ∧ i = .int .i64 k ∧ (∃ (cs : Array Value) (f : Nat → Nat), Blk wr w.heap.size cs 62 ∧ cs.size = xs.length * 4 ∧ (∀ j y, j < k → xs[j]? = some y → Cs4 cs j (.int .i64 y.kind) (.slice (some ⟨f j, 0, none⟩) y.pins.length y.pins.length) (.int .i64 y.wd) (.int .i64 y.len) ∧ IBlk wr (f j) y.pins ∧ w.heap.size < f j) ∧ (∀ i j, i < j → j < k → f i ≠ f j)) ∧ Below w.heap.size w wr) (fun i _ => xs.length - (intOf i).toNat)
    case atStart => exact ⟨0, Nat.zero_le _, rfl, ⟨cs0, fun _ => 0, blkT, hcs0, by intro j y hj; omega, by intro i j _ hj; omega⟩, blwT⟩
    case round =>
      obtain ⟨k, hk, rfl, ⟨cs, f, hB, hsz, hold, hinj⟩, hb⟩ := hrel
      by_cases hlt : k < xs.length
      · obtain ⟨x, hx⟩ : ∃ x, xs[k]? = some x := ⟨xs[k], List.getElem?_eq_getElem hlt⟩
        obtain ⟨sv, c1, c2, c3, c4, hS⟩ := (h4 k x hx).by hb
        have HS := Lib.hid hsz
        have HO := Lib.hid hold
        have HINJ := Lib.hid hinj
        have HX := Lib.hid hx
        have hxm : x.pins.length ≤ 1048576 := hpn x (List.mem_of_getElem? hx)
        have HT := Lib.hid (fun w h => toDevice_any x.kind x.wd x.len sv x.pins w h hxm)
        have hin : k * 4 + 4 ≤ cs.size := by omega
        have hlB := hB.lt
        obtain ⟨u0_, d0⟩ : ∃ u, cs[k * 4]? = some u := ⟨_, Array.getElem?_eq_getElem (by omega)⟩
        obtain ⟨u1_, d1⟩ : ∃ u, cs[k * 4 + 1]? = some u := ⟨_, Array.getElem?_eq_getElem (by omega)⟩
        obtain ⟨u2_, d2⟩ : ∃ u, cs[k * 4 + 2]? = some u := ⟨_, Array.getElem?_eq_getElem (by omega)⟩
        obtain ⟨u3_, d3⟩ : ∃ u, cs[k * 4 + 3]? = some u := ⟨_, Array.getElem?_eq_getElem (by omega)⟩
        obtain ⟨a', c', rfl⟩ := hS.len
        clear hsz hold hinj hx h4 hcs0 hpn
        go_wp2_with fail
        refine (HT.out _ hS).mono ?_
        rintro e w1 ⟨gp, rfl, hG, hge, hb1⟩
        replace hB := Blk.by hb1 hB
        have hBc := hB.cell
        have hBf := hB.free
        go_wp2
        have hlt' : ∀ j y, j < k → xs[j]? = some y → f j < wr.heap.size := fun j y hj hy => (HO.out j y hj hy).2.1.lt
        refine ⟨⟨k + 1, by omega, by go_num, ⟨put4 cs k (.int .i64 x.kind) (.slice (some ⟨gp, 0, none⟩) x.pins.length x.pins.length) (.int .i64 x.wd) (.int .i64 x.len), fun j => if j = k then gp else f j, (((hB.set _ _).set _ _).set _ _).set _ _, by rw [size_put4]; exact HS.out, ?_, ?_⟩, blwT⟩, by simp [intOf]; omega⟩
        · intro j y hj hy
          by_cases hjk : j = k
          · subst hjk
            have hxy := HX.out
            obtain rfl : y = x := Option.some.inj (hy.symm.trans hxy)
            simp only [if_true]
            exact ⟨put4_same cs j _ _ _ _ hin, (((hG.apart _ _ _ (by omega)).apart _ _ _ (by omega)).apart _ _ _ (by omega)).apart _ _ _ (by omega), by omega⟩
          · obtain ⟨q1, q2, q3⟩ := HO.out j y (by omega) hy
            simp only [if_neg hjk]
            exact ⟨put4_other cs k j _ _ _ _ _ _ _ _ hjk q1, ((((q2.by hb1).apart _ _ _ (by omega)).apart _ _ _ (by omega)).apart _ _ _ (by omega)).apart _ _ _ (by omega), q3⟩
        · intro i j hij hj
          obtain ⟨y, hy⟩ : ∃ y, xs[i]? = some y := ⟨xs[i]'(by omega), List.getElem?_eq_getElem (by omega)⟩
          have hfi := hlt' i y (by omega) hy
          by_cases hjk : j = k
          · subst hjk
            simp only [if_true, if_neg (show i ≠ j by omega)]
            omega
          · simp only [if_neg hjk, if_neg (show i ≠ k by omega)]
            exact HINJ.out i j hij (by omega)
      · go_wp2
        go_ret
        have hlB := hB.lt
        obtain rfl : k = xs.length := by omega
        refine ⟨_, rfl, .inr ⟨w.heap.size, xs.length, cs, f, rfl, by omega, Nat.le_refl _, by unfold maxLen; omega, hB, fun i x hx => ?_, fun i j hi hj hij => ?_⟩, hb⟩
        · have hi := (List.getElem?_eq_some_iff.1 hx).1
          obtain ⟨q1, q2, q3⟩ := hold i x hi hx
          have := q2.lt
          exact ⟨⟨_, q1, q2.r (by have := hpn x (List.mem_of_getElem? hx); omega)⟩, by omega⟩
        · rcases Nat.lt_or_ge i j with h | h
          · exact hinj i j h hj
          · exact fun e => hinj j i (by omega) hi e.symm
/- Netlists in memory of the call's own; marking them. -/
def OwnNl (w : World) (lo hi : Nat) (v : Value) (x : Nl) : Prop := ∃ s1 s2 l1 h1 l2 h2, v = .agg #[.int .i64 x.nets, s1, s2] ∧ OwnDs w l1 h1 s1 x.ds ∧ OwnPs w l2 h2 s2 x.ps ∧ (lo ≤ l1 ∧ h1 ≤ hi) ∧ (lo ≤ l2 ∧ h2 ≤ hi) ∧ (h1 ≤ l2 ∨ h2 ≤ l1)
section
variable {w w' : World} {lo hi lo' hi' : Nat} {v : Value} {x : Nl}
theorem OwnNl.by (hb : Below w.heap.size w w') (h : OwnNl w lo hi v x) : OwnNl w' lo hi v x := by
  obtain ⟨s1, s2, l1, h1, l2, h2, e, a, b, c⟩ := h; exact ⟨s1, s2, l1, h1, l2, h2, e, a.by hb, b.by hb, c⟩
theorem OwnNl.past (hb : Within lo' hi' w w') (h : OwnNl w lo hi v x) (hd : hi ≤ lo' ∨ hi' ≤ lo) : OwnNl w' lo hi v x := by
  obtain ⟨s1, s2, l1, h1, l2, h2, e, a, b, c, d, f⟩ := h; exact ⟨s1, s2, l1, h1, l2, h2, e, a.past hb (by omega), b.past hb (by omega), c, d, f⟩
theorem OwnNl.wide (h : OwnNl w lo hi v x) (h1 : lo' ≤ lo) (h2 : hi ≤ hi') : OwnNl w lo' hi' v x := by
  obtain ⟨s1, s2, l1, h1, l2, h2, e, a, b, c, d, f⟩ := h; exact ⟨s1, s2, l1, h1, l2, h2, e, a, b, by omega, by omega, f⟩
theorem OwnNl.nl (h : OwnNl w lo hi v x) : NlV w v x := by
  obtain ⟨s1, s2, l1, h1, l2, h2, e, a, b, c⟩ := h; exact ⟨s1, s2, e, a.sl, b.sl⟩
end
def nsum (x : Nl) : Nat := (dsum x.ds).toNat + 2 * x.ps.length
def markNl (k : Nat) (x : Nl) : Nl := ⟨x.nets, markDs k x.ds, markPs (k + (dsum x.ds).toNat) x.ps.length⟩
set_option maxRecDepth 100000 in
set_option maxHeartbeats 2000000 in
theorem toPortS_own (sv : Value) (xs : List Pt) (w : World) (h : PtSl w sv xs) (hn : xs.length ≤ 1048576) :
    Calls Tryz.prog 39 #[sv] w fun e w' => ∃ v, e = .returned v ∧ OwnPs w' w.heap.size w'.heap.size v xs ∧ Below w.heap.size w w' := by
  refine (toPortS_any sv xs w h hn).mono ?_
  rintro e w' ⟨g, rfl, ⟨cs, h1, h2, h3⟩, hg, hb⟩
  exact ⟨_, rfl, .inr ⟨g, xs.length, cs, rfl, ⟨hg, h1.lt⟩, Nat.le_refl _, by unfold maxLen; omega, h1, h3⟩, hb⟩
theorem Within.off {g o : Nat} {w : World} (v : Value) : Within g (g + 1) w (w.setCell ⟨g, o, none⟩ v) := Within.set (Within.refl g (g + 1) w) g o v (Nat.le_refl _) (by omega)
set_option maxRecDepth 100000 in
set_option maxHeartbeats 2000000 in
theorem toNetlist_own (v : Value) (x : Nl) (w : World) (h : NlV w v x) (hn : x.ds.length ≤ 1048576) (hpn : ∀ d ∈ x.ds, d.pins.length ≤ 1048576) (hn' : x.ps.length ≤ 1048576) :
    Calls Tryz.prog 12 #[v] w fun e w' => ∃ v', e = .returned v' ∧ OwnNl w' w.heap.size w'.heap.size v' x ∧ Below w.heap.size w w' := by
  obtain ⟨s1, s2, rfl, h, h'⟩ := h
  obtain ⟨nets, ds, ps⟩ := x
  dsimp only at h h' hn hpn hn' ⊢
  have HD := Lib.hid (fun w h => toDeviceS_own s1 ds w h hn hpn)
  have HP := Lib.hid (fun w h => toPortS_own s2 ps w h hn')
  obtain ⟨a, c, rfl⟩ := h.sized
  obtain ⟨a', c', rfl⟩ := h'.sized
  go_enter Tryz.func12, Tryz.ntmps12
  go_wp2_with fail
  refine (HD.out _ (h.by blwT)).mono ?_
  rintro e w1 ⟨v1, rfl, hG, hb1⟩
  have k0 : Blk w1 w.heap.size #[.int .i64 nets, .slice a ds.length c, .slice a' ps.length c'] 25 := blkT
  have k1 : Blk w1 (w.heap.size + 1) #[.int .i64 0, .slice none 0 0, .slice none 0 0] 35 := blkT
  have k2 : Blk w1 (w.heap.size + 1 + 1) #[.int .i64 nets, .slice none 0 0, .slice none 0 0] 35 := blkT
  have l2 := k2.lt
  have c0 := k0.cell
  have c2 := k2.cell
  have f2 := k2.free
  simp only [World.size_alloc] at hG
  have HG := Lib.hid hG
  obtain ⟨a1, c1, rfl⟩ := hG.sl.sized
  clear hG
  go_wp2_with fail
  have hbw : Below w.heap.size w (w1.setCell ⟨w.heap.size + 1 + 1, 1, none⟩ (.slice a1 ds.length c1)) := blwT
  refine (HP.out _ (h'.by hbw)).mono ?_
  rintro e w2 ⟨v2, rfl, hF, hb2⟩
  replace k1 : Blk w2 (w.heap.size + 1) #[.int .i64 0, .slice none 0 0, .slice none 0 0] 35 := blkT
  replace k2 : Blk w2 (w.heap.size + 1 + 1) #[.int .i64 nets, .slice a1 ds.length c1, .slice none 0 0] 35 := Blk.by hb2 (k2.set 1 _)
  have hG2 := ((HG.out.past (Within.off (g := w.heap.size + 1 + 1) (o := 1) (.slice a1 ds.length c1)) (by omega)).by hb2)
  have HG2 := Lib.hid hG2
  replace hbw := below_on hb2 hbw
  have hsz := hb2.size
  simp at hsz hF
  have HF := Lib.hid hF
  obtain ⟨a2, c2', rfl⟩ := hF.sl.sized
  clear c0 k0 c2 f2 hb1 hb2 HG hG2 hF
  have c1' := k1.cell
  have f1 := k1.free
  have c2 := k2.cell
  have f2 := k2.free
  have l1 := k1.lt
  have l2' := k2.lt
  go_wp2
  refine bodyPost_ret (v := .agg #[.int .i64 nets, .slice a1 ds.length c1, .slice a2 ps.length c2']) (by simp [results, Tryz.results12, go_sem, *]) rfl ⟨_, rfl, ⟨_, _, w.heap.size + 1 + 1 + 1, w1.heap.size, w1.heap.size, w2.heap.size, rfl, ?_, ?_, ⟨by omega, by simp; omega⟩, ⟨by omega, by simp⟩, .inl (Nat.le_refl _)⟩, ?_⟩
  · exact ((((HG2.out.past (Within.off _) (by omega)).past (Within.off _) (by omega)).past (Within.off _) (by omega)).past (Within.off _) (by omega))
  · exact ((((HF.out.past (Within.off _) (by omega)).past (Within.off _) (by omega)).past (Within.off _) (by omega)).past (Within.off _) (by omega))
  · repeat (first | (with_reducible exact hbw) | ((with_reducible refine Below.setCell ?_ ?_ _); rotate_left; focus (simp; try omega)))
set_option maxRecDepth 100000 in
set_option maxHeartbeats 2000000 in
theorem markNetlist_any (lo hi : Nat) (v : Value) (x : Nl) (k0 : Nat) (w : World) (h : OwnNl w lo hi v x) (hlw : hi ≤ w.heap.size) (hpn : ∀ d ∈ x.ds, d.pins.length ≤ 1048576) (hk : 0 < k0) (hk' : k0 + nsum x ≤ 1000000000) :
    Calls Tryz.prog 16 #[v, .int .i64 (k0 : Int)] w fun e w' => e = .returned (.int .i64 ((k0 + nsum x : Nat) : Int)) ∧ OwnNl w' lo hi v (markNl k0 x) ∧ Within lo hi w w' := by
  obtain ⟨s1, s2, l1, h1, l2, h2, rfl, hD, hP, q1, q2, q3⟩ := h
  obtain ⟨nets, ds, ps⟩ := x
  simp only [nsum, markNl] at hk' ⊢
  dsimp only at hD hP hpn ⊢
  have hd0 := dsum_nonneg ds
  obtain ⟨dn, hdn⟩ : ∃ dn : Nat, dsum ds = (dn : Int) := ⟨(dsum ds).toNat, by omega⟩
  have HMD := Lib.hid (fun w h => markDeviceS_any l1 h1 s1 ds k0 w h hpn (by omega) (by omega))
  rw [hdn] at HMD hk' ⊢
  simp only [Int.toNat_natCast] at hk' ⊢
  have HMP := Lib.hid (fun w h hlw => markPortS_any l2 h2 s2 ps (k0 + dn) w h hlw (by omega) (by omega))
  have HD := Lib.hid hD
  have HP := Lib.hid hP
  obtain ⟨a, c, rfl⟩ := hD.sl.sized
  obtain ⟨a', c', rfl⟩ := hP.sl.sized
  obtain ⟨T, hT⟩ : ∃ T : Nat, k0 + dn + 2 * ps.length = T := ⟨_, rfl⟩
  have hT' : k0 + (dn + 2 * ps.length) = T := by omega
  rw [hT] at HMP
  rw [hT']
  have hcast : ((k0 : Int) + (dn : Int)) = ((k0 + dn : Nat) : Int) := by omega
  rw [hcast] at HMD
  obtain ⟨m, hm⟩ : ∃ m : Nat, k0 + dn = m := ⟨_, rfl⟩
  rw [hm] at HMD HMP ⊢
  clear hD hP hdn hT hT' hd0 hcast hm
  go_enter Tryz.func16, Tryz.ntmps16
  go_wp2_with fail
  refine (HMD.out _ (HD.out.by blwT)).mono ?_
  rintro e w1 ⟨rfl, hD1, hw1⟩
  have k0_ : Blk w1 w.heap.size #[.int .i64 nets, .slice a ds.length c, .slice a' ps.length c'] 35 := hw1.blk (Blk.new _ rfl) (by omega)
  have hWt : Within lo hi w w1 := ((Within.refl lo hi w).alloc _).on (hw1.sub q1.1 q1.2)
  have hP1 := (HP.out.by ((Below.refl _ w).alloc (Nat.le_refl _) (.cells #[.int .i64 nets, .slice a ds.length c, .slice a' ps.length c'] 35))).past hw1 (by omega)
  have c0 := k0_.cell
  have hsz := hWt.size
  have HD1 := Lib.hid hD1
  have HP1 := Lib.hid hP1
  clear hD1 hP1 hw1
  go_wp2_with fail
  refine (HMP.out _ HP1.out (by omega)).mono ?_
  rintro e w2 ⟨rfl, hP2, hw2⟩
  have hD2 := HD1.out.past hw2 (by omega)
  go_wp2
  go_ret
  exact ⟨rfl, ⟨_, _, l1, h1, l2, h2, by rfl, hD2, hP2, q1, q2, q3⟩, hWt.on (hw2.sub q2.1 q2.2)⟩
/- What a netlist's marks come to. -/
theorem dsum_pins (ds : List Dv) : dsum ds = 3 * (ds.length : Int) + pinsAll ds := by
  induction ds with
  | nil => simp [dsum, pinsAll]
  | cons d ds ih => simp only [dsum, pinsAll, ih, List.length_cons]; omega
theorem nsum_le {x : Nl} (h : nlSize x.ds x.ps ≤ 1048576) : nsum x ≤ 4000000 := by
  unfold nlSize at h
  have h1 := pinsAll_nonneg x.ds
  have h2 := namesAll_nonneg x.ps
  have h3 := dsum_pins x.ds
  unfold nsum
  omega
/- Netlists of the call's own whose ports' block may lie between the blocks of the devices: marking them. -/
structure WithX (lo hi P : Nat) (w w' : World) : Prop where
  within : Within lo hi w w'
  keep : P < w.heap.size → w'.heap[P]? = w.heap[P]?
section
variable {lo hi P : Nat} {a w w' : World}
theorem WithX.refl (lo hi P : Nat) (w : World) : WithX lo hi P w w := ⟨Within.refl _ _ _, fun _ => rfl⟩
theorem WithX.set (h : WithX lo hi P a w) (g o : Nat) (v : Value) (h1 : lo ≤ g) (h2 : g < hi) (h3 : g ≠ P) : WithX lo hi P a (w.setCell ⟨g, o, none⟩ v) :=
  ⟨h.within.set g o v h1 h2, fun hp => (Below.heap_setCell w ⟨g, o, none⟩ v P (fun e => h3 e.symm)).trans (h.keep hp)⟩
theorem WithX.on (h : WithX lo hi P a w) (h' : WithX lo hi P w w') : WithX lo hi P a w' :=
  ⟨h.within.on h'.within, fun hp => (h'.keep (by have := h.within.size; omega)).trans (h.keep hp)⟩
end
def OwnDsX (w : World) (lo hi P : Nat) (sv : Value) (ds : List Dv) : Prop :=
  (∃ a c, sv = .slice a 0 c ∧ ds = []) ∨ ∃ (g cap : Nat) (cs : Array Value) (f : Nat → Nat), sv = .slice (some ⟨g, 0, none⟩) ds.length cap ∧ ((lo ≤ g ∧ g < hi) ∧ g ≠ P) ∧ ds.length ≤ cap ∧ cap ≤ maxLen ∧ Blk w g cs 62 ∧
    (∀ (i : Nat) (x : Dv), ds[i]? = some x → (∃ pv, Cs4 cs i (.int .i64 x.kind) pv (.int .i64 x.wd) (.int .i64 x.len) ∧ OwnR w (f i) (f i + 1) pv x.pins) ∧ (lo ≤ f i ∧ f i < hi ∧ f i ≠ g ∧ f i ≠ P)) ∧ (∀ i j, i < ds.length → j < ds.length → i ≠ j → f i ≠ f j)
section
variable {w w' : World} {lo hi P lo' hi' : Nat} {sv : Value} {ds : List Dv} {ps : List Pt}
theorem OwnDsX.ods (h : OwnDsX w lo hi P sv ds) : OwnDs w lo hi sv ds := by
  rcases h with h | ⟨g, cap, cs, f, h1, h2, h3, h4, h5, h6, h7⟩
  · exact .inl h
  · exact .inr ⟨g, cap, cs, f, h1, h2.1, h3, h4, h5, fun i x hx => ⟨(h6 i x hx).1, (h6 i x hx).2.1, (h6 i x hx).2.2.1, (h6 i x hx).2.2.2.1⟩, h7⟩
theorem OwnDsX.by (hb : Below w.heap.size w w') (h : OwnDsX w lo hi P sv ds) : OwnDsX w' lo hi P sv ds := by
  rcases h with h | ⟨g, cap, cs, f, h1, h2, h3, h4, h5, h6, h7⟩
  · exact .inl h
  · refine .inr ⟨g, cap, cs, f, h1, h2, h3, h4, Blk.by hb h5, fun i x hx => ?_, h7⟩
    obtain ⟨⟨pv, a, b⟩, c⟩ := h6 i x hx
    exact ⟨⟨pv, a, OwnR.by hb b⟩, c⟩
theorem OwnDsX.past (hb : Within lo' hi' w w') (h : OwnDsX w lo hi P sv ds) (hd : hi ≤ lo' ∨ hi' ≤ lo) : OwnDsX w' lo hi P sv ds := by
  rcases h with h | ⟨g, cap, cs, f, h1, h2, h3, h4, h5, h6, h7⟩
  · exact .inl h
  · refine .inr ⟨g, cap, cs, f, h1, h2, h3, h4, hb.blk h5 (by omega), fun i x hx => ?_, h7⟩
    obtain ⟨⟨pv, a, b⟩, c⟩ := h6 i x hx
    exact ⟨⟨pv, a, OwnR.past hb b (by omega)⟩, c⟩
theorem OwnDsX.off (h : OwnDsX w lo hi P sv ds) (hb : Within P (P + 1) w w') : OwnDsX w' lo hi P sv ds := by
  rcases h with h | ⟨g, cap, cs, f, h1, h2, h3, h4, h5, h6, h7⟩
  · exact .inl h
  · refine .inr ⟨g, cap, cs, f, h1, h2, h3, h4, hb.blk h5 (by omega), fun i x hx => ?_, h7⟩
    obtain ⟨⟨pv, a, b⟩, c⟩ := h6 i x hx
    exact ⟨⟨pv, a, OwnR.past hb b (by omega)⟩, c⟩
theorem OwnDsX.wide (h : OwnDsX w lo hi P sv ds) (h1 : lo' ≤ lo) (h2 : hi ≤ hi') : OwnDsX w lo' hi' P sv ds := by
  rcases h with h | ⟨g, cap, cs, f, e1, e2, e3, e4, e5, e6, e7⟩
  · exact .inl h
  · refine .inr ⟨g, cap, cs, f, e1, by omega, e3, e4, e5, fun i x hx => ?_, e7⟩
    obtain ⟨a, b⟩ := e6 i x hx
    exact ⟨a, by omega⟩
theorem OwnPs.at (h : OwnPs w lo hi sv ps) (hl : lo < hi) : ∃ P, OwnPs w P (P + 1) sv ps ∧ lo ≤ P ∧ P < hi := by
  rcases h with h | ⟨g, cap, cs, h1, h2, h3, h4, h5, h6⟩
  · exact ⟨lo, .inl h, Nat.le_refl _, hl⟩
  · exact ⟨g, .inr ⟨g, cap, cs, h1, by omega, h3, h4, h5, h6⟩, h2.1, h2.2⟩
end
def OwnNlX (w : World) (lo hi : Nat) (v : Value) (x : Nl) : Prop := ∃ s1 s2 P, v = .agg #[.int .i64 x.nets, s1, s2] ∧ OwnDsX w lo hi P s1 x.ds ∧ OwnPs w P (P + 1) s2 x.ps ∧ (lo ≤ P ∧ P < hi)
section
variable {w w' : World} {lo hi lo' hi' : Nat} {v : Value} {x : Nl}
theorem OwnNlX.by (hb : Below w.heap.size w w') (h : OwnNlX w lo hi v x) : OwnNlX w' lo hi v x := by
  obtain ⟨s1, s2, P, e, a, b, c⟩ := h; exact ⟨s1, s2, P, e, a.by hb, b.by hb, c⟩
theorem OwnNlX.past (hb : Within lo' hi' w w') (h : OwnNlX w lo hi v x) (hd : hi ≤ lo' ∨ hi' ≤ lo) : OwnNlX w' lo hi v x := by
  obtain ⟨s1, s2, P, e, a, b, c⟩ := h; exact ⟨s1, s2, P, e, a.past hb hd, b.past hb (by omega), c⟩
theorem OwnNlX.wide (h : OwnNlX w lo hi v x) (h1 : lo' ≤ lo) (h2 : hi ≤ hi') : OwnNlX w lo' hi' v x := by
  obtain ⟨s1, s2, P, e, a, b, c⟩ := h; exact ⟨s1, s2, P, e, a.wide h1 h2, b, by omega⟩
theorem OwnNlX.nl (h : OwnNlX w lo hi v x) : NlV w v x := by
  obtain ⟨s1, s2, P, e, a, b, c⟩ := h; exact ⟨s1, s2, e, a.ods.sl, b.sl⟩
end
theorem lt_of_cell {w : World} {p : Addr} {v : Value} (h : w.cell? p = some v) : p.block < w.heap.size := by
  rcases Nat.lt_or_ge p.block w.heap.size with h' | h'
  · exact h'
  · simp [World.cell?, Array.getElem?_eq_none h'] at h
set_option maxRecDepth 100000 in
set_option maxHeartbeats 1000000 in
theorem vnClosure_any (x : Dv) (sv : Value) (nets : Int) (B : Nat) (W : World) (hc : W.cell? ⟨B, 0, none⟩ = some (.int .i64 nets)) (hS : IntSl W sv x.pins) (hn : 0 ≤ nets) (hn' : nets ≤ 24) :
    Calls Tryz.prog 90 #[.agg #[.int .i64 x.kind, sv, .int .i64 x.wd, .int .i64 x.len], .pointer (some ⟨B, 0, none⟩)] W fun e w' => e = .returned (.bool (!dvB nets x)) ∧ Below W.heap.size W w' := by
  have HT := Lib.hid (fun w h => validDevice_any x sv nets w h hn hn')
  have hB := lt_of_cell hc
  dsimp only at hB
  obtain ⟨a, c, rfl⟩ := hS.len
  generalize dvB nets x = r at *
  go_enter Tryz.func90, Tryz.ntmps90
  go_wp2_with fail
  refine (HT.out _ (hS.by blwT)).mono ?_
  rintro e w1 ⟨rfl, hb1⟩
  go_wp2
  go_ret
  exact ⟨rfl, blwT⟩
theorem dvs_any (nets : Int) (ds : List Dv) : (ds.any fun d => !dvB nets d) = !(ds.all (dvB nets)) := by
  induction ds with
  | nil => rfl
  | cons x xs ih => simp [ih]
set_option maxRecDepth 100000 in
set_option maxHeartbeats 4000000 in
theorem implNl_any (x : Nl) (v : Value) (w : World) (h : NlV w v x) (hok : ∀ p ∈ x.ps, p.ok) (hnn : Fits x.nets) :
    Calls Tryz.prog 40 #[v] w fun e w' => e = .returned (.bool (nlB x)) ∧ Below w.heap.size w w' := by
  obtain ⟨s1, s2, rfl, hd, hp⟩ := h
  have HNn := Lib.hid (@nlB_nets x)
  have HND := Lib.hid (@nlB_ds x)
  have HNP := Lib.hid (@nlB_ps x)
  have HPT := Lib.hid (fun i => @nlB_pt i x)
  have HEN := Lib.hid (@nlB_pts x)
  obtain ⟨nets, ds, ps⟩ := x
  dsimp only at hd hp hok hnn HNn HND HNP HPT HEN ⊢
  generalize nlB ⟨nets, ds, ps⟩ = r at *
  have hdl : ds.length ≤ maxLen := by
    rcases hd with ⟨_, _, _, h2⟩ | ⟨b, off, cap, h1, h2, h3, _⟩
    · subst h2; simp
    · exact Nat.le_trans h2 h3
  have hpl : ps.length ≤ maxLen := by
    rcases hp with ⟨_, _, _, h2⟩ | ⟨b, off, cap, h1, h2, h3, _⟩
    · subst h2; simp
    · exact Nat.le_trans h2 h3
  unfold maxLen at hdl hpl
  have HD := Lib.hid hd
  have HP := Lib.hid hp
  have hmf : ∀ (fn : Fn) (first cap : Array Value) (w : World), (Instr.makeFunc fn first cap).run Tryz.prog w = .ok (.func fn first cap) w := fun _ _ _ _ => rfl
  obtain ⟨a1, c1, rfl⟩ := hd.sized
  obtain ⟨a2, c2, rfl⟩ := hp.sized
  clear hd hp
  rcases Bool.eq_false_or_eq_true (inB nets 0 24) with hn | hn
  · have hn' := inB_iff.1 hn
    have HN1 := Lib.hid hn
    by_cases h24 : ds.length ≤ 24
    · by_cases h8 : ps.length ≤ 8
      · have HK := Lib.hid hok
        clear hok
        go_enter Tryz.func40, Tryz.ntmps40
        go_wp2_with (go_at_call 87; refine (within_any _ _ _ _).mono ?_; rintro e w' ⟨rfl, rfl⟩)
        go_loopw [24] (fun i wr => ∃ k : Nat, k ≤ ps.length ∧ i = .int .i64 k ∧ Hid (∀ (j : Nat), j < k → ptOk nets ps j = true) ∧ Blk wr w.heap.size #[.int .i64 nets, .slice a1 ds.length c1, .slice a2 ps.length c2] 35 ∧ Below w.heap.size w wr) (fun i _ => ps.length - (intOf i).toNat)
        case atStart => exact ⟨0, Nat.zero_le _, rfl, Lib.hid (by intro j hj; omega), blkT, blwT⟩
        case round =>
          obtain ⟨k, hk, rfl, HI, kN, hb⟩ := hrel
          have cN := kN.cell
          have lN := kN.lt
          by_cases hlt : k < ps.length
          · obtain ⟨x, hx⟩ : ∃ x, ps[k]? = some x := ⟨ps[k], List.getElem?_eq_getElem hlt⟩
            have HX := Lib.hid hx
            have HPS := HP.out
            rcases HPS with ⟨_, _, _, h2⟩ | ⟨b, off, cap, he, h2, h3, h4⟩
            · rw [h2] at hlt; simp at hlt
            obtain ⟨rfl, rfl⟩ : a2 = some ⟨b, off, none⟩ ∧ c2 = cap := by simpa using he
            obtain ⟨p1, p2⟩ := (h4 k x hx).by hb
            have lP := lt_of_cell p1
            dsimp only at lP
            have hsz : x.name.size ≤ 9223372036854775807 := (HK.out x (List.mem_of_getElem? hx)).1
            have i1 : (0 : Int) ≤ (k : Int) := by omega
            have i2 : (k : Int) < (ps.length : Int) := by omega
            clear hx he
            rcases Bool.eq_false_or_eq_true (nameB x.name) with hnm | hnm
            · rcases Bool.eq_false_or_eq_true (inB x.net 0 (nets - 1)) with hin | hin
              · by_cases hk0 : k = 0
                · have HK0 := Lib.hid hk0
                  have hx0 := HX.out
                  rw [hk0] at hx0
                  have HX0 := Lib.hid hx0
                  have hkz : decide (0 < k) = false := by rw [decide_eq_false_iff_not]; omega
                  clear h4 hk0 hx0
                  have HOK := Lib.hid (HK0.out.symm ▸ ptOk_zero HX0.out hnm hin : ptOk nets ps k = true)
                  go_wp2
                  go_quiet ((first | (go_at_call 88; exact Calls.quiet_of_same ((implIsName_any x.name _ hsz).mono fun _ _ h => ⟨h.1, h.2.symm⟩)) | (go_at_call 87; exact Calls.quiet_of_same ((within_any _ _ _ _).mono fun _ _ h => ⟨h.1, h.2.symm⟩))))
                  go_wp2
                  exact ⟨⟨k + 1, by omega, by go_num, Lib.hid (fun i hj => by
                    by_cases e : i = k
                    · subst e; exact HOK.out
                    · exact HI.out i (by omega)), blkT, blwT⟩, by simp [intOf]; omega⟩
                · obtain ⟨j, rfl⟩ : ∃ j, k = j + 1 := ⟨k - 1, by omega⟩
                  obtain ⟨y, hy⟩ : ∃ y, ps[j]? = some y := ⟨ps[j]'(by omega), List.getElem?_eq_getElem (by omega)⟩
                  have HY := Lib.hid hy
                  obtain ⟨q1, q2⟩ := (h4 j y hy).by hb
                  have j1 : (0 : Int) < (j : Int) + 1 := by omega
                  have j2 : (0 : Int) ≤ (j : Int) := by omega
                  have j3 : (j : Int) < (ps.length : Int) := by omega
                  have j4 : (j : Int) + 1 < (ps.length : Int) := by omega
                  clear hy h4
                  rcases Bool.eq_false_or_eq_true (Op.bytesLess y.name.toList x.name.toList) with hls | hls
                  · have HOK := Lib.hid (ptOk_succ HX.out HY.out hnm hin hls)
                    go_wp2
                    go_quiet ((first | (go_at_call 88; exact Calls.quiet_of_same ((implIsName_any x.name _ hsz).mono fun _ _ h => ⟨h.1, h.2.symm⟩)) | (go_at_call 87; exact Calls.quiet_of_same ((within_any _ _ _ _).mono fun _ _ h => ⟨h.1, h.2.symm⟩))))
                    go_wp2
                    exact ⟨⟨(j + 1) + 1, by omega, by go_num, Lib.hid (fun i hj => by
                      by_cases e : i = (j + 1)
                      · subst e; exact HOK.out
                      · exact HI.out i (by omega)), blkT, blwT⟩, by simp [intOf]; omega⟩
                  · have hr := Lib.hid (HPT.out _ hlt (ptOk_lt HX.out HY.out hls))
                    go_wp2
                    go_quiet ((first | (go_at_call 88; exact Calls.quiet_of_same ((implIsName_any x.name _ hsz).mono fun _ _ h => ⟨h.1, h.2.symm⟩)) | (go_at_call 87; exact Calls.quiet_of_same ((within_any _ _ _ _).mono fun _ _ h => ⟨h.1, h.2.symm⟩))))
                    go_wp2
                    go_ret
                    exact ⟨ret_bool hr.out.symm, blwT⟩
              · have hr := Lib.hid (HPT.out _ hlt (ptOk_net HX.out hin))
                go_wp2
                go_quiet ((first | (go_at_call 88; exact Calls.quiet_of_same ((implIsName_any x.name _ hsz).mono fun _ _ h => ⟨h.1, h.2.symm⟩)) | (go_at_call 87; exact Calls.quiet_of_same ((within_any _ _ _ _).mono fun _ _ h => ⟨h.1, h.2.symm⟩))))
                go_wp2
                go_ret
                exact ⟨ret_bool hr.out.symm, blwT⟩
            · have hr := Lib.hid (HPT.out _ hlt (ptOk_name HX.out hnm))
              go_wp2
              go_quiet ((first | (go_at_call 88; exact Calls.quiet_of_same ((implIsName_any x.name _ hsz).mono fun _ _ h => ⟨h.1, h.2.symm⟩)) | (go_at_call 87; exact Calls.quiet_of_same ((within_any _ _ _ _).mono fun _ _ h => ⟨h.1, h.2.symm⟩))))
              go_wp2
              go_ret
              exact ⟨ret_bool hr.out.symm, blwT⟩
          · obtain rfl : k = ps.length := by omega
            have hr := Lib.hid (HEN.out HN1.out h24 h8 (fun i hi => HI.out i hi))
            have eg : ∀ args w, (callFunc 90 args).run Tryz.prog w = .ok (.enter 90 args) w := enters_of Tryz.func90 (by kernel_rfl) rfl
            have hcl : ∀ (W : World) (x : Dv) (sv : Value), Below wr.heap.size wr W → x ∈ ds → IntSl W sv x.pins → Calls Tryz.prog 90 (#[.agg #[.int .i64 x.kind, sv, .int .i64 x.wd, .int .i64 x.len]] ++ #[.pointer (some ⟨w.heap.size, 0, none⟩)]) W fun e w' => e = .returned (.bool (!dvB nets x)) ∧ Below W.heap.size W w' := by
              intro W x sv hbW _ hS
              show Calls Tryz.prog 90 #[.agg #[.int .i64 x.kind, sv, .int .i64 x.wd, .int .i64 x.len], .pointer (some ⟨w.heap.size, 0, none⟩)] W _
              exact vnClosure_any x sv nets w.heap.size W (cell_by' hbW (by rw [cN]; rfl)) hS (by omega) (by omega)
            have HC := Lib.hid (containsFuncD_any 90 #[.pointer (some ⟨w.heap.size, 0, none⟩)] eg (fun d => !dvB nets d) _ ds wr (HD.out.by hb) hcl)
            rw [dvs_any] at HC
            clear eg hcl HI
            go_wp2_with (go_at_call 89; refine HC.out.mono ?_; rintro e w1 ⟨rfl, hb1⟩)
            go_ret
            exact ⟨ret_bool (by rw [hr.out]), blwT⟩
      · have hr := Lib.hid (HNP.out h8)
        go_enter Tryz.func40, Tryz.ntmps40
        go_wp2_with (go_at_call 87; refine (within_any _ _ _ _).mono ?_; rintro e w' ⟨rfl, rfl⟩)
        go_ret
        exact ⟨ret_bool hr.out.symm, blwT⟩
    · have hr := Lib.hid (HND.out h24)
      go_enter Tryz.func40, Tryz.ntmps40
      go_wp2_with (go_at_call 87; refine (within_any _ _ _ _).mono ?_; rintro e w' ⟨rfl, rfl⟩)
      go_ret
      exact ⟨ret_bool hr.out.symm, blwT⟩
  · have hr := Lib.hid (HNn.out hn)
    go_enter Tryz.func40, Tryz.ntmps40
    go_wp2_with (go_at_call 87; refine (within_any _ _ _ _).mono ?_; rintro e w' ⟨rfl, rfl⟩)
    go_ret
    exact ⟨ret_bool hr.out.symm, blwT⟩
def dcells : List Dv → List Value → List Value
  | d :: ds, p :: ps => .int .i64 d.kind :: p :: .int .i64 d.wd :: .int .i64 d.len :: dcells ds ps
  | _, _ => []
theorem dcells_push (ds : List Dv) (ps : List Value) (d : Dv) (p : Value) (h : ps.length = ds.length) : dcells (ds ++ [d]) (ps ++ [p]) = dcells ds ps ++ [.int .i64 d.kind, p, .int .i64 d.wd, .int .i64 d.len] := by
  induction ds generalizing ps with
  | nil => cases ps with
    | nil => rfl
    | cons => simp at h
  | cons y ys ih => cases ps with
    | nil => simp at h
    | cons q qs => simp at h; simp [dcells, ih qs h]
theorem dcells_get (ds : List Dv) (ps : List Value) (i : Nat) (d : Dv) (p : Value) (h : ds[i]? = some d) (hp : ps[i]? = some p) : (dcells ds ps)[i * 4]? = some (.int .i64 d.kind) ∧ (dcells ds ps)[i * 4 + 1]? = some p ∧ (dcells ds ps)[i * 4 + 2]? = some (.int .i64 d.wd) ∧ (dcells ds ps)[i * 4 + 3]? = some (.int .i64 d.len) := by
  induction ds generalizing ps i with
  | nil => simp at h
  | cons y ys ih => cases ps with
    | nil => simp at hp
    | cons q qs => cases i with
      | zero => simp at h hp; subst h hp; simp [dcells]
      | succ i =>
        simp at h hp
        have e : ∀ r, (dcells (y :: ys) (q :: qs))[(i + 1) * 4 + r]? = (dcells ys qs)[i * 4 + r]? := by
          intro r
          show (Value.int .i64 y.kind :: q :: Value.int .i64 y.wd :: Value.int .i64 y.len :: dcells ys qs)[(i + 1) * 4 + r]? = _
          rw [show (i + 1) * 4 + r = (i * 4 + r) + 1 + 1 + 1 + 1 by omega]
          simp only [List.getElem?_cons_succ]
        have e0 := e 0
        simp only [Nat.add_zero] at e0
        rw [e0, e 1, e 2, e 3]
        exact ih qs i h hp
def Bld (w : World) (lo hi : Nat) (v : Value) (ds : List Dv) : Prop := hi ≤ w.heap.size ∧ ∃ (pvs : List Value) (f : Nat → Nat), w.ownsRow lo 62 4 v ds.length (dcells ds pvs) ∧ pvs.length = ds.length ∧ (∀ g, v.ownBlock = some g → lo ≤ g ∧ g < hi) ∧
  (∀ i x pv, ds[i]? = some x → pvs[i]? = some pv → OwnR w (f i) (f i + 1) pv x.pins ∧ (lo ≤ f i ∧ f i < hi) ∧ v.ownBlock ≠ some (f i)) ∧ (∀ i j, i < ds.length → j < ds.length → i ≠ j → f i ≠ f j)
section
variable {w w' : World} {lo hi : Nat} {v : Value} {ds : List Dv}
theorem grown_within {row : Option Nat} (h : w.grownBy w' row) (hr : ∀ g, row = some g → lo ≤ g ∧ g < hi) : Within lo hi w w' :=
  ⟨h.os, h.tape, h.output, h.size, fun k hk hd => h.block k hk (fun e => by have := hr k e.symm; omega)⟩
theorem row_same {T : TypeId} {k n : Nat} {xs : List Value} (h : w.ownsRow lo T k v n xs) (hb : ∀ g, v.ownBlock = some g → w'.heap[g]? = w.heap[g]?) : w'.ownsRow lo T k v n xs := by
  obtain ⟨h1, h2⟩ := h
  refine ⟨h1, ?_⟩
  rcases h2 with h2 | ⟨g, cap, cur, e1, e2, e3, e4⟩
  · exact .inl h2
  · exact .inr ⟨g, cap, cur, e1, e2, by rw [hb g (by rw [e1]; rfl)]; exact e3, e4⟩
theorem Bld.nil (w : World) (lo : Nat) : Bld w lo w.heap.size (.slice none 0 0) [] :=
  ⟨Nat.le_refl _, [], fun _ => 0, World.ownsRow_nil w lo _ 4, rfl, (by intro g h; cases h), (by intro i x pv h; simp at h), (by intro i j h; simp at h)⟩
theorem Bld.by (hb : Below w.heap.size w w') (h : Bld w lo hi v ds) : Bld w' lo hi v ds := by
  obtain ⟨hs, pvs, f, h1, h2, h3, h4, h5⟩ := h
  refine ⟨Nat.le_trans hs hb.size, pvs, f, row_same h1 (fun g hg => hb.block g (by have := h3 g hg; omega)), h2, h3, fun i x pv hx hp => ?_, h5⟩
  obtain ⟨a, b, c⟩ := h4 i x pv hx hp
  exact ⟨OwnR.by hb a, b, c⟩
theorem Bld.past {lo' hi' : Nat} (hb : Within lo' hi' w w') (h : Bld w lo hi v ds) (hd : hi' ≤ lo ∨ hi ≤ lo') : Bld w' lo hi v ds := by
  obtain ⟨hs, pvs, f, h1, h2, h3, h4, h5⟩ := h
  refine ⟨Nat.le_trans hs hb.size, pvs, f, row_same h1 (fun g hg => hb.block g (by have := h3 g hg; omega) (by have := h3 g hg; omega)), h2, h3, fun i x pv hx hp => ?_, h5⟩
  obtain ⟨a, b, c⟩ := h4 i x pv hx hp
  exact ⟨OwnR.past hb a (by omega), b, c⟩
theorem Bld.sized (h : Bld w lo hi v ds) : ∃ a c, v = .slice a ds.length c := by
  obtain ⟨_, pvs, f, ⟨_, h1⟩, _⟩ := h
  rcases h1 with ⟨h1, h2⟩ | ⟨g, cap, cur, e1, _⟩
  · exact ⟨none, 0, by rw [h1, h2]⟩
  · exact ⟨_, _, e1⟩
theorem Bld.own (h : Bld w lo hi v ds) : OwnDs w lo hi v ds := by
  obtain ⟨hs, pvs, f, ⟨hlen, h1⟩, h2, h3, h4, h5⟩ := h
  rcases h1 with ⟨h1, hn⟩ | ⟨g, cap, cur, e1, e2, e3, e4, e5, e6, e7⟩
  · exact .inl ⟨_, _, h1, List.eq_nil_of_length_eq_zero hn⟩
  · have hcur : ∀ (j : Nat) u, (dcells ds pvs)[j]? = some u → cur[j]? = some u := by
      intro j u hu
      rw [← e7] at hu
      have hj : j < ds.length * 4 := by
        have := (List.getElem?_eq_some_iff.1 hu).1
        rw [List.length_take] at this; omega
      rw [List.getElem?_take_of_lt hj] at hu
      simpa using hu
    refine .inr ⟨g, cap, cur, f, e1, h3 g (by rw [e1]; rfl), e4, e5, e3, fun i x hx => ?_, h5⟩
    have hi : i < ds.length := (List.getElem?_eq_some_iff.1 hx).1
    obtain ⟨pv, hp⟩ : ∃ pv, pvs[i]? = some pv := ⟨pvs[i]'(by omega), List.getElem?_eq_getElem (by omega)⟩
    obtain ⟨a, b, c⟩ := h4 i x pv hx hp
    obtain ⟨q0, q1, q2, q3⟩ := dcells_get ds pvs i x pv hx hp
    refine ⟨⟨pv, ⟨hcur _ _ q0, hcur _ _ q1, hcur _ _ q2, hcur _ _ q3⟩, a⟩, b.1, b.2, fun e => c (by rw [e1, e]; rfl)⟩
end
theorem step_push {ops : Array Oper} {o : Oper} {a : Act} {w : World} {K : Act → World → Prop} {Q : Exit → Act → World → Prop} {E : Prop} (hgd : o.guard = none) (s x : Operand)
    (ho : o.op = .call { callee := .builtin .append, args := #[s, x], argTypes := #[32, 32] })
    (lo hi : Nat) (v : Value) (ds : List Dv) (hs : a.eval s = v) (hB : Bld w lo hi v ds) (nb : Nat) (d : Dv) (pv : Value) (fb : Nat) (hx : a.eval x = .slice (some ⟨nb, 0, none⟩) 1 1)
    (hnb : Blk w nb #[.int .i64 d.kind, pv, .int .i64 d.wd, .int .i64 d.len] 62) (hpv : OwnR w fb (fb + 1) pv d.pins) (hlo : lo ≤ hi) (hhi : hi ≤ fb) (hfb : fb < w.heap.size) (hn : ds.length ≤ 1000)
    (hK : ∀ a' c' w', Bld w' lo w'.heap.size (.slice a' (ds.length + 1) c') (ds ++ [d]) → Within lo hi w w' → K (a.put o.dst (.slice a' (ds.length + 1) c')) w') :
    if Region.wanted o (yielded ops a.tmps) = true then Oper.wp Tryz.prog o a w K Q else E := by
  obtain ⟨i0, hi0, hz0, hz1, hz2⟩ := info_parts infoDev
  obtain ⟨hsz, pvs, f, h1, h2, h3, h4, h5⟩ := hB
  have hone : pv.oneCell' = true := by
    rcases hpv with ⟨_, _, rfl, _⟩ | ⟨_, _, _, rfl, _⟩ <;> rfl
  refine step_append_lies w hgd s x 32 ho lo 62 i0 _ 4 48 Tryz.underlying32 hi0 hz0 hz1 hz2 rfl (by decide) v ds.length _ hs h1 ⟨nb, 0, none⟩ 1 1 [.int .i64 d.kind, pv, .int .i64 d.wd, .int .i64 d.len] hx rfl (World.news_of_block (cs := #[.int .i64 d.kind, pv, .int .i64 d.wd, .int .i64 d.len]) hnb) ?_ (by decide) (by unfold maxLen; omega) (by omega) (by omega) w.heap.size rfl ?_
  · intro u hu
    simp at hu
    rcases hu with rfl | rfl | rfl | rfl
    · rfl
    · exact hone
    · rfl
    · rfl
  · intro g cap w' hrow hgrow hg hgl
    have hW : Within lo hi w w' := grown_within hgrow h3
    refine hK (some ⟨g, 0, none⟩) cap w' ⟨Nat.le_refl _, pvs ++ [pv], fun i => if i = ds.length then fb else f i, ?_, by simp [h2], ?_, ?_, ?_⟩ hW
    · rw [List.length_append, List.length_singleton, dcells_push ds pvs d pv h2]; exact hrow
    · intro g' hg'
      have : g = g' := by injection hg'
      subst this
      rcases hg with h | h
      · have := h3 g h; omega
      · omega
    · intro i y pv' hy hp'
      by_cases hi' : i < ds.length
      · rw [List.getElem?_append_left hi'] at hy
        rw [List.getElem?_append_left (by omega)] at hp'
        obtain ⟨a1, b1, c1⟩ := h4 i y pv' hy hp'
        simp only [if_neg (show i ≠ ds.length by omega)]
        have hsep : ∀ g0, v.ownBlock = some g0 → g0 ≠ f i := fun g0 e1 e2 => c1 (by rw [e1, e2])
        refine ⟨?_, by have := hgrow.size; omega, ?_⟩
        · cases hv : v.ownBlock with
          | none => exact OwnR.by ⟨hgrow.os, hgrow.tape, hgrow.output, hgrow.size, fun k hk => hgrow.block k hk (by rw [hv]; simp)⟩ a1
          | some g0 => exact OwnR.past (grown_within (lo := g0) (hi := g0 + 1) hgrow (fun g1 e => by rw [hv] at e; cases e; omega)) a1 (by have := hsep g0 hv; omega)
        · intro e
          have : g = f i := by injection e
          rcases hg with h | h
          · exact hsep g h this
          · omega
      · have hil : i < (ds ++ [d]).length := (List.getElem?_eq_some_iff.1 hy).1
        simp at hil
        obtain rfl : i = ds.length := by omega
        rw [List.getElem?_append_right (Nat.le_refl _)] at hy
        rw [List.getElem?_append_right (by omega)] at hp'
        simp [h2] at hy hp'
        subst hy hp'
        simp only [if_true]
        refine ⟨OwnR.past hW hpv (by omega), by have := hgrow.size; omega, ?_⟩
        intro e
        have : g = fb := by injection e
        rcases hg with h | h
        · have := h3 g h; omega
        · omega
    · intro i j hi' hj' hij
      simp at hi' hj'
      by_cases e1 : i = ds.length
      · subst e1
        obtain ⟨y, hy⟩ : ∃ y, ds[j]? = some y := ⟨ds[j]'(by omega), List.getElem?_eq_getElem (by omega)⟩
        obtain ⟨p, hp⟩ : ∃ p, pvs[j]? = some p := ⟨pvs[j]'(by omega), List.getElem?_eq_getElem (by omega)⟩
        have := (h4 j y p hy hp).2.1
        simp only [if_true, if_neg (show j ≠ ds.length by omega)]
        omega
      · by_cases e2 : j = ds.length
        · subst e2
          obtain ⟨y, hy⟩ : ∃ y, ds[i]? = some y := ⟨ds[i]'(by omega), List.getElem?_eq_getElem (by omega)⟩
          obtain ⟨p, hp⟩ : ∃ p, pvs[i]? = some p := ⟨pvs[i]'(by omega), List.getElem?_eq_getElem (by omega)⟩
          have := (h4 i y p hy hp).2.1
          simp only [if_true, if_neg e1]
          omega
        · simp only [if_neg e1, if_neg e2]
          exact h5 i j (by omega) (by omega) hij
/- Copies of slices of ports. -/
def pcells : List Pt → List Value
  | p :: ps => .string p.name :: .int .i64 p.net :: pcells ps
  | [] => []
theorem pcells_get (ps : List Pt) (i : Nat) (p : Pt) (h : ps[i]? = some p) : (pcells ps)[i * 2]? = some (.string p.name) ∧ (pcells ps)[i * 2 + 1]? = some (.int .i64 p.net) := by
  induction ps generalizing i with
  | nil => simp at h
  | cons q qs ih => cases i with
    | zero => simp at h; subst h; simp [pcells]
    | succ i =>
      simp at h
      have e : ∀ r, (pcells (q :: qs))[(i + 1) * 2 + r]? = (pcells qs)[i * 2 + r]? := by
        intro r
        show (Value.string q.name :: Value.int .i64 q.net :: pcells qs)[(i + 1) * 2 + r]? = _
        rw [show (i + 1) * 2 + r = (i * 2 + r) + 1 + 1 by omega]
        simp only [List.getElem?_cons_succ]
      have e0 := e 0
      simp only [Nat.add_zero] at e0
      rw [e0, e 1]
      exact ih i h
section
variable {w w1 : World} {lo : Nat} {sv : Value} {ps : List Pt}
end
/- copyNetlist. -/
theorem OwnI.pin {w : World} {lo : Nat} {sv : Value} {zs : List Int} (h : OwnI w lo sv zs) (hne : zs ≠ []) : ∃ g, lo ≤ g ∧ g < w.heap.size ∧ OwnR w g (g + 1) sv zs := by
  rcases h with ⟨_, _, _, h⟩ | ⟨g, cap, cs, h1, h2, h3, h4, h5, h6⟩
  · exact absurd h hne
  · exact ⟨g, h2, h5.lt, .inr ⟨g, cap, cs, h1, Nat.le_refl _, Nat.lt_succ_self _, h3, h4, h5, h6⟩⟩
def BldP (w : World) (lo hi : Nat) (v : Value) (ps : List Pt) : Prop := hi ≤ w.heap.size ∧ w.ownsRow lo 98 2 v ps.length (pcells ps) ∧ (∀ g, v.ownBlock = some g → lo ≤ g ∧ g < hi)
section
variable {w w' : World} {lo hi : Nat} {v : Value} {ps : List Pt}
theorem BldP.nil (w : World) (lo : Nat) : BldP w lo w.heap.size (.slice none 0 0) [] :=
  ⟨Nat.le_refl _, World.ownsRow_nil w lo _ 2, by intro g h; cases h⟩
theorem BldP.by (hb : Below w.heap.size w w') (h : BldP w lo hi v ps) : BldP w' lo hi v ps := by
  obtain ⟨hs, h1, h3⟩ := h
  exact ⟨Nat.le_trans hs hb.size, row_same h1 (fun g hg => hb.block g (by have := h3 g hg; omega)), h3⟩
theorem BldP.past {lo' hi' : Nat} (hb : Within lo' hi' w w') (h : BldP w lo hi v ps) (hd : hi' ≤ lo ∨ hi ≤ lo') : BldP w' lo hi v ps := by
  obtain ⟨hs, h1, h3⟩ := h
  exact ⟨Nat.le_trans hs hb.size, row_same h1 (fun g hg => hb.block g (by have := h3 g hg; omega) (by have := h3 g hg; omega)), h3⟩
theorem BldP.sized (h : BldP w lo hi v ps) : ∃ a c, v = .slice a ps.length c := by
  obtain ⟨_, ⟨_, h1⟩, _⟩ := h
  rcases h1 with ⟨h1, h2⟩ | ⟨g, cap, cur, e1, _⟩
  · exact ⟨none, 0, by rw [h1, h2]⟩
  · exact ⟨_, _, e1⟩
theorem BldP.own (h : BldP w lo hi v ps) : OwnPs w lo hi v ps := by
  obtain ⟨hs, ⟨hlen, h1⟩, h3⟩ := h
  rcases h1 with ⟨h1, hn⟩ | ⟨g, cap, cur, e1, e2, e3, e4, e5, e6, e7⟩
  · exact .inl ⟨_, _, h1, List.eq_nil_of_length_eq_zero hn⟩
  · have hcur : ∀ (j : Nat) u, (pcells ps)[j]? = some u → cur[j]? = some u := by
      intro j u hu
      rw [← e7] at hu
      have hj : j < ps.length * 2 := by
        have := (List.getElem?_eq_some_iff.1 hu).1
        rw [List.length_take] at this; omega
      rw [List.getElem?_take_of_lt hj] at hu
      simpa using hu
    refine .inr ⟨g, cap, cur, e1, h3 g (by rw [e1]; rfl), e4, e5, e3, fun i x hx => ?_⟩
    obtain ⟨q0, q1⟩ := pcells_get ps i x hx
    exact ⟨hcur _ _ q0, hcur _ _ q1⟩
end
/- Netlists with other numbers of nets: the plain part. -/
def nmOf (names : List Int) (p : Int) : Int := names.getD p.toNat 0
def renD (names : List Int) (d : Dv) : Dv := ⟨d.kind, d.pins.map (nmOf names), d.wd, d.len⟩
def renTo (names : List Int) (zs : List Int) (k : Nat) : List Int := (zs.take k).map (nmOf names) ++ zs.drop k
theorem renTo_zero (names zs : List Int) : renTo names zs 0 = zs := by simp [renTo]
theorem renTo_all (names zs : List Int) : renTo names zs zs.length = zs.map (nmOf names) := by simp [renTo]
theorem renTo_get (names zs : List Int) (k : Nat) (z : Int) (h : zs[k]? = some z) : (renTo names zs k)[k]? = some z := by
  have hk := (List.getElem?_eq_some_iff.1 h).1
  rw [renTo, List.getElem?_append_right (by simp; omega)]
  simp
  rw [show k - min k zs.length = 0 by omega]
  simpa using h
theorem renTo_step (names zs : List Int) (k : Nat) (z : Int) (h : zs[k]? = some z) : (renTo names zs k).set k (nmOf names z) = renTo names zs (k + 1) := by
  have hk := (List.getElem?_eq_some_iff.1 h).1
  apply List.ext_getElem?
  intro i
  have e : zs[k] = z := by rw [List.getElem?_eq_getElem hk] at h; exact Option.some.inj h
  unfold renTo
  rw [take_snoc_of zs k z h]
  by_cases hi : i = k
  · subst hi
    rw [List.getElem?_set_self (by simp; omega)]
    rw [List.getElem?_append_left (by simp; omega), List.map_append, List.getElem?_append_right (by simp; omega)]
    simp
    rw [show i - min i zs.length = 0 by omega]
    rfl
  · rw [List.getElem?_set_ne (by omega)]
    by_cases hlt : i < k
    · rw [List.getElem?_append_left (by simp; omega), List.getElem?_append_left (by simp; omega), List.map_append, List.getElem?_append_left (by simp; omega)]
    · rw [List.getElem?_append_right (by simp; omega), List.getElem?_append_right (by simp; omega)]
      simp
      congr 1
      omega
theorem take_map_snoc {α β : Type} (f : α → β) (xs : List α) (k : Nat) (x : α) (h : xs[k]? = some x) : (xs.take (k + 1)).map f = (xs.take k).map f ++ [f x] := by
  rw [take_snoc_of xs k x h]; simp
def ICs (cs : Array Value) (zs : List Int) : Prop := ∀ (i : Nat) (z : Int), zs[i]? = some z → cs[i]? = some (Value.int .i64 z)
theorem ICs.set {cs : Array Value} {zs : List Int} (h : ICs cs zs) (k : Nat) (v : Int) : ICs (cs.setIfInBounds k (.int .i64 v)) (zs.set k v) := by
  intro i z hz
  have hi : i < zs.length := by have := (List.getElem?_eq_some_iff.1 hz).1; simpa using this
  have hc := h i zs[i] (List.getElem?_eq_getElem hi)
  have hs := (Array.getElem?_eq_some_iff.1 hc).1
  by_cases e : k = i
  · subst e
    rw [List.getElem?_set_self hi] at hz
    cases hz
    simp [Array.getElem?_setIfInBounds, hs]
  · rw [List.getElem?_set_ne e] at hz
    rw [Array.getElem?_setIfInBounds, if_neg e]
    exact h i z hz
theorem ICs.own {w : World} {g cap : Nat} {cs : Array Value} {zs : List Int} (h : ICs cs zs) (hB : Blk w g cs 2) (h1 : zs.length ≤ cap) (h2 : cap ≤ maxLen) : OwnR w g (g + 1) (.slice (some ⟨g, 0, none⟩) zs.length cap) zs :=
  .inr ⟨g, cap, cs, rfl, Nat.le_refl _, Nat.lt_succ_self _, h1, h2, hB, h⟩
theorem OwnR.cells {w : World} {lo hi : Nat} {sv : Value} {zs : List Int} (h : OwnR w lo hi sv zs) (hz : zs ≠ []) : ∃ g cap cs, sv = .slice (some ⟨g, 0, none⟩) zs.length cap ∧ (lo ≤ g ∧ g < hi) ∧ zs.length ≤ cap ∧ cap ≤ maxLen ∧ Blk w g cs 2 ∧ ICs cs zs := by
  rcases h with ⟨_, _, _, h⟩ | ⟨g, cap, cs, h1, h2, h2', h3, h4, h5, h6⟩
  · exact absurd h hz
  · exact ⟨g, cap, cs, h1, ⟨h2, h2'⟩, h3, h4, h5, h6⟩
/- The two pushes at a plain list of operations. -/
theorem list_push {ops : Array Oper} {rest : List Oper} {o : Oper} {a : Act} {w : World} {Q : Exit → Act → World → Prop} (hgd : o.guard = none) (s x : Operand)
    (ho : o.op = .call { callee := .builtin .append, args := #[s, x], argTypes := #[32, 32] })
    (lo hi : Nat) (v : Value) (ds : List Dv) (hs : a.eval s = v) (hB : Bld w lo hi v ds) (nb : Nat) (d : Dv) (pv : Value) (fb : Nat) (hx : a.eval x = .slice (some ⟨nb, 0, none⟩) 1 1)
    (hnb : Blk w nb #[.int .i64 d.kind, pv, .int .i64 d.wd, .int .i64 d.len] 62) (hpv : OwnR w fb (fb + 1) pv d.pins) (hlo : lo ≤ hi) (hhi : hi ≤ fb) (hfb : fb < w.heap.size) (hn : ds.length ≤ 1000)
    (hK : ∀ a' c' w', Bld w' lo w'.heap.size (.slice a' (ds.length + 1) c') (ds ++ [d]) → Within lo hi w w' → wpList Tryz.prog ops Q rest (a.put o.dst (.slice a' (ds.length + 1) c')) w') : wpList Tryz.prog ops Q (o :: rest) a w :=
  wpList_plain hgd fun K hk => by
    have h := step_push (ops := ops) (K := K) (Q := Q) (E := False) hgd s x ho lo hi v ds hs hB nb d pv fb hx hnb hpv hlo hhi hfb hn (fun a' c' w' h1 h2 => hk _ _ (hK a' c' w' h1 h2))
    rwa [if_pos (by simp [Region.wanted, hgd])] at h
/- One device's pins, one port's net, turned in place. -/
section
variable {α : Type} (f : α → α)
end
end Go.Proofs.YtifbffianbgeaaaGreat
