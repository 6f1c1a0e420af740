/- l26Check and networkCode. -/
import Derived.Test.YtjolkdckhmmenaaCheckM
import Derived.Test.YtjolkdckhmmenaaNetValid
import Derived.Test.YtjolkdckhmmenaaGroups
namespace Go.Proofs.Ytjolkdckhmmenaa
open Go.RowKit
set_option linter.unusedVariables false
set_option linter.unusedSimpArgs false

set_option maxRecDepth 100000 in
set_option maxHeartbeats 4000000 in
theorem l26Check_any (x : Nw) (a b : Int) (v : Value) (w : World) (h : NwV w v x) (hok : ∀ r ∈ x.rs, r.ok) (hf : Fits x.nodes) :
    Calls Try.prog 29 #[v, .int .i64 a, .int .i64 b] w fun e w' => e = .returned (.int .i64 (nkC x a b)) ∧ Below w.heap.size w w' := by
  obtain ⟨r, hr⟩ : ∃ r, nkC x a b = r := ⟨_, rfl⟩
  rw [hr]
  obtain ⟨nodes, rs⟩ := x
  have HV := Lib.hid (fun sv w h => specValid_any nodes sv rs w h hok hf)
  obtain ⟨sv, rfl, hR⟩ := h
  dsimp only at *
  have HR := Lib.hid hR
  obtain ⟨a0, c0, rfl⟩ := hR.len
  clear hR hok
  rcases Bool.eq_false_or_eq_true (nwB nodes rs) with hv | hv
  · rw [hv] at HV
    obtain ⟨⟨n0, n1⟩, r8, _⟩ := nw_facts hv
    obtain ⟨n, rfl⟩ : ∃ n : Nat, nodes = n := ⟨nodes.toNat, by omega⟩
    have HVV := Lib.hid hv
    by_cases hi : inB a 0 ((n : Int) - 1) = true ∧ inB b 0 ((n : Int) - 1) = true
    · obtain ⟨i1, i2⟩ := hi
      have b1 := inB_iff.1 i1
      have b2 := inB_iff.1 i2
      obtain ⟨p, rfl⟩ : ∃ p : Nat, a = p := ⟨a.toNat, by omega⟩
      obtain ⟨q, rfl⟩ : ∃ q : Nat, b = q := ⟨b.toNat, by omega⟩
      have hpw := pow_small r8
      have HT := Lib.hid (fun (z : Int) (hz : z = ((2 ^ rs.length - 1 : Nat) : Int)) v w (h : NwV w v ⟨n, rs⟩) => show Calls Try.prog 40 #[v, .int .i64 z] w fun e w' => ∃ v', e = .returned v' ∧ BldI w' w.heap.size w'.heap.size v' (labL n (allL rs)) ∧ Below w.heap.size w w' from by have q := l26Trees_any n rs (2 ^ rs.length - 1) v w h (nw_ok (x := ⟨n, rs⟩) HVV.out rfl) (by omega); rw [sel_all, ← hz] at q; exact q)
      obtain ⟨K0, hK0⟩ : ∃ K : Nat, 2 ^ rs.length = K := ⟨_, rfl⟩
      rw [hK0] at hpw HT
      have hU0 : ∀ m : Nat, m < 9 → wrap64 (2 ^ m) = ((2 ^ m : Nat) : Int) := by decide +kernel
      have hF0 := hU0 rs.length (by omega)
      rw [hK0] at hF0
      have HC0 := Lib.hid (fun h3 => (nkC_0 (x := ⟨n, rs⟩) (a := p) (b := q) HVV.out i1 i2 h3).symm.trans hr)
      have HC5 := Lib.hid (fun h3 => (nkC_5 (x := ⟨n, rs⟩) (a := p) (b := q) HVV.out i1 i2 h3).symm.trans hr)
      have hkw : wrap64 ((K0 : Int) - 1) = (K0 : Int) - 1 := by simp [wrap64, IntKind.wrap, IntKind.bits, IntKind.signed]; omega
      clear hU0 hK0 hr hv
      go_enter Try.func29, Try.ntmps29
      go_wp2_with fail
      refine (HV.out _ _ (HR.out.by (by ((repeat (first | (with_reducible exact Below.refl _ _) | (with_reducible refine below_drewN ?_ _) | (with_reducible refine Below.drew ?_) | (with_reducible refine below_al ?_ _) | (with_reducible refine below_on (by assumption) ?_) | ((with_reducible refine Below.setCell ?_ ?_ _); rotate_left; focus (first | omega | (simp; done) | (simp; omega))) | (with_reducible assumption))); done)))).mono ?_
      rintro e w1 ⟨rfl, hb1⟩
      have kA : Blk w1 w.heap.size #[.int .i64 (n : Int), .slice a0 rs.length c0] 26 := (by ((repeat (first | (with_reducible assumption) | (with_reducible refine Blk.drewN ?_ _) | (with_reducible refine Blk.drew ?_) | ((with_reducible refine Blk.new _ ?_); focus (first | omega | (simp; done) | (simp; omega))) | (with_reducible refine Blk.past ?_ _) | ((with_reducible refine Blk.apart ?_ _ _ _ ?_); rotate_left; focus (first | omega | (simp; done) | (simp; omega))) | (with_reducible refine Blk.by (by assumption) ?_))); done))
      have hW : Below w.heap.size w w1 := (by ((repeat (first | (with_reducible exact Below.refl _ _) | (with_reducible refine below_drewN ?_ _) | (with_reducible refine Below.drew ?_) | (with_reducible refine below_al ?_ _) | (with_reducible refine below_on (by assumption) ?_) | ((with_reducible refine Below.setCell ?_ ?_ _); rotate_left; focus (first | omega | (simp; done) | (simp; omega))) | (with_reducible assumption))); done))
      have qA := kA.cell
      have lA := kA.lt
      clear hb1
      go_wp2_with (go_at_call 32; refine (l16In_any _ _ _ _).mono ?_; rintro e w' ⟨rfl, rfl⟩)
      refine (HT.out _ (by omega) _ _ ⟨_, rfl, HR.out.by hW⟩).mono ?_
      rintro e w2 ⟨v2, rfl, hB2, hb2⟩
      have hI2 := hB2.own.sl
      obtain ⟨a1, c1, rfl⟩ := hB2.sized
      rw [length_labL] at hI2 ⊢
      rcases hI2 with ⟨_, _, _, h2'⟩ | ⟨lb, lf, lc, le, _, _, l4⟩
      · have := congrArg List.length h2'; rw [length_labL] at this; simp at this; omega
      rw [length_labL] at le
      obtain ⟨rfl, rfl⟩ : a1 = some ⟨lb, lf, none⟩ ∧ c1 = lc := by simpa using le
      have e1 := l4 p _ (labL_get (allL rs) (by omega))
      have e2 := l4 q _ (labL_get (allL rs) (by omega))
      replace hW := below_on hb2 hW
      have j1 : (0 : Int) ≤ (p : Int) := by omega
      have j2 : (p : Int) < (n : Int) := by omega
      have j3 : (0 : Int) ≤ (q : Int) := by omega
      have j4 : (q : Int) < (n : Int) := by omega
      clear hb2 hB2 l4 le kA qA lA i1 i2
      by_cases h3 : allL rs p = allL rs q
      · have hc := HC0.out h3
        rw [h3] at e1
        have HC := Lib.hid hc
        generalize allL rs q = Y at *
        clear hc h3
        go_wp2
        go_quiet (fail)
        go_wp2
        go_ret
        exact ⟨ret_i64 HC.out, below_drewN hW _⟩
      · have hc := HC5.out h3
        have HC := Lib.hid hc
        have hne : (((allL rs p : Nat) : Int) != ((allL rs q : Nat) : Int)) = true := by simp; omega
        clear hc h3
        go_wp2
        go_quiet (fail)
        go_wp2
        go_ret
        exact ⟨ret_i64 HC.out, below_drewN hW _⟩
    · have hc := (nkC_2 (x := ⟨n, rs⟩) (a := a) (b := b) hv hi).symm.trans hr
      have HC := Lib.hid hc
      clear hr hc hv
      rcases Bool.eq_false_or_eq_true (inB a 0 ((n : Int) - 1)) with i1 | i1
      · have i2 : inB b 0 ((n : Int) - 1) = false := by
          cases q : inB b 0 ((n : Int) - 1) with
          | true => exact absurd ⟨i1, q⟩ hi
          | false => rfl
        clear hi
        go_enter Try.func29, Try.ntmps29
        go_wp2_with fail
        refine (HV.out _ _ (HR.out.by (by ((repeat (first | (with_reducible exact Below.refl _ _) | (with_reducible refine below_drewN ?_ _) | (with_reducible refine Below.drew ?_) | (with_reducible refine below_al ?_ _) | (with_reducible refine below_on (by assumption) ?_) | ((with_reducible refine Below.setCell ?_ ?_ _); rotate_left; focus (first | omega | (simp; done) | (simp; omega))) | (with_reducible assumption))); done)))).mono ?_
        rintro e w1 ⟨rfl, hb1⟩
        have kA : Blk w1 w.heap.size #[.int .i64 (n : Int), .slice a0 rs.length c0] 26 := (by ((repeat (first | (with_reducible assumption) | (with_reducible refine Blk.drewN ?_ _) | (with_reducible refine Blk.drew ?_) | ((with_reducible refine Blk.new _ ?_); focus (first | omega | (simp; done) | (simp; omega))) | (with_reducible refine Blk.past ?_ _) | ((with_reducible refine Blk.apart ?_ _ _ _ ?_); rotate_left; focus (first | omega | (simp; done) | (simp; omega))) | (with_reducible refine Blk.by (by assumption) ?_))); done))
        have hW : Below w.heap.size w w1 := (by ((repeat (first | (with_reducible exact Below.refl _ _) | (with_reducible refine below_drewN ?_ _) | (with_reducible refine Below.drew ?_) | (with_reducible refine below_al ?_ _) | (with_reducible refine below_on (by assumption) ?_) | ((with_reducible refine Below.setCell ?_ ?_ _); rotate_left; focus (first | omega | (simp; done) | (simp; omega))) | (with_reducible assumption))); done))
        have qA := kA.cell
        have lA := kA.lt
        clear hb1
        go_wp2_with (go_at_call 32; refine (l16In_any _ _ _ _).mono ?_; rintro e w' ⟨rfl, rfl⟩)
        go_ret
        exact ⟨ret_i64 HC.out, hW⟩
      · clear hi
        go_enter Try.func29, Try.ntmps29
        go_wp2_with fail
        refine (HV.out _ _ (HR.out.by (by ((repeat (first | (with_reducible exact Below.refl _ _) | (with_reducible refine below_drewN ?_ _) | (with_reducible refine Below.drew ?_) | (with_reducible refine below_al ?_ _) | (with_reducible refine below_on (by assumption) ?_) | ((with_reducible refine Below.setCell ?_ ?_ _); rotate_left; focus (first | omega | (simp; done) | (simp; omega))) | (with_reducible assumption))); done)))).mono ?_
        rintro e w1 ⟨rfl, hb1⟩
        have kA : Blk w1 w.heap.size #[.int .i64 (n : Int), .slice a0 rs.length c0] 26 := (by ((repeat (first | (with_reducible assumption) | (with_reducible refine Blk.drewN ?_ _) | (with_reducible refine Blk.drew ?_) | ((with_reducible refine Blk.new _ ?_); focus (first | omega | (simp; done) | (simp; omega))) | (with_reducible refine Blk.past ?_ _) | ((with_reducible refine Blk.apart ?_ _ _ _ ?_); rotate_left; focus (first | omega | (simp; done) | (simp; omega))) | (with_reducible refine Blk.by (by assumption) ?_))); done))
        have hW : Below w.heap.size w w1 := (by ((repeat (first | (with_reducible exact Below.refl _ _) | (with_reducible refine below_drewN ?_ _) | (with_reducible refine Below.drew ?_) | (with_reducible refine below_al ?_ _) | (with_reducible refine below_on (by assumption) ?_) | ((with_reducible refine Below.setCell ?_ ?_ _); rotate_left; focus (first | omega | (simp; done) | (simp; omega))) | (with_reducible assumption))); done))
        have qA := kA.cell
        have lA := kA.lt
        clear hb1
        go_wp2_with (go_at_call 32; refine (l16In_any _ _ _ _).mono ?_; rintro e w' ⟨rfl, rfl⟩)
        go_ret
        exact ⟨ret_i64 HC.out, hW⟩
  · rw [hv] at HV
    have hc := (nkC_1 (x := ⟨nodes, rs⟩) (a := a) (b := b) hv).symm.trans hr
    have HC := Lib.hid hc
    clear hr hc hv
    go_enter Try.func29, Try.ntmps29
    go_wp2_with fail
    refine (HV.out _ _ (HR.out.by (by ((repeat (first | (with_reducible exact Below.refl _ _) | (with_reducible refine below_drewN ?_ _) | (with_reducible refine Below.drew ?_) | (with_reducible refine below_al ?_ _) | (with_reducible refine below_on (by assumption) ?_) | ((with_reducible refine Below.setCell ?_ ?_ _); rotate_left; focus (first | omega | (simp; done) | (simp; omega))) | (with_reducible assumption))); done)))).mono ?_
    rintro e w1 ⟨rfl, hb1⟩
    have hW : Below w.heap.size w w1 := (by ((repeat (first | (with_reducible exact Below.refl _ _) | (with_reducible refine below_drewN ?_ _) | (with_reducible refine Below.drew ?_) | (with_reducible refine below_al ?_ _) | (with_reducible refine below_on (by assumption) ?_) | ((with_reducible refine Below.setCell ?_ ?_ _); rotate_left; focus (first | omega | (simp; done) | (simp; omega))) | (with_reducible assumption))); done))
    clear hb1
    go_wp2
    go_ret
    exact ⟨ret_i64 HC.out, hW⟩

set_option maxRecDepth 100000 in
set_option maxHeartbeats 4000000 in
theorem networkCode_any (x : Nw) (a b : Int) (v : Value) (w : World) (h : NwV w v x) (hok : ∀ r ∈ x.rs, r.ok) (hf : Fits x.nodes) :
    Calls Try.prog 26 #[v, .int .i64 a, .int .i64 b] w fun e w' => e = .returned (.int .i64 (nkC x a b)) ∧ Below w.heap.size w w' := by
  obtain ⟨r, hr⟩ : ∃ r, nkC x a b = r := ⟨_, rfl⟩
  rw [hr]
  obtain ⟨nodes, rs⟩ := x
  have HV := Lib.hid (fun sv w h => implValid_any nodes sv rs w h hok hf)
  obtain ⟨sv, rfl, hR⟩ := h
  dsimp only at *
  have HR := Lib.hid hR
  obtain ⟨a0, c0, rfl⟩ := hR.len
  clear hR hok
  rcases Bool.eq_false_or_eq_true (nwB nodes rs) with hv | hv
  · rw [hv] at HV
    obtain ⟨⟨n0, n1⟩, r8, _⟩ := nw_facts hv
    obtain ⟨n, rfl⟩ : ∃ n : Nat, nodes = n := ⟨nodes.toNat, by omega⟩
    have HVV := Lib.hid hv
    by_cases hi : inB a 0 ((n : Int) - 1) = true ∧ inB b 0 ((n : Int) - 1) = true
    · obtain ⟨i1, i2⟩ := hi
      have b1 := inB_iff.1 i1
      have b2 := inB_iff.1 i2
      obtain ⟨p, rfl⟩ : ∃ p : Nat, a = p := ⟨a.toNat, by omega⟩
      obtain ⟨q, rfl⟩ : ∃ q : Nat, b = q := ⟨b.toNat, by omega⟩
      have hpw := pow_small r8
      have HT := Lib.hid (fun (z : Int) (hz : z = ((2 ^ rs.length - 1 : Nat) : Int)) v w (h : NwV w v ⟨n, rs⟩) => show Calls Try.prog 36 #[v, .int .u64 z] w fun e w' => ∃ v', e = .returned v' ∧ BldI w' w.heap.size w'.heap.size v' (labL n (allL rs)) ∧ Below w.heap.size w w' from by have q := groups_any n rs (2 ^ rs.length - 1) v w h (nw_ok (x := ⟨n, rs⟩) HVV.out rfl) (by omega); rw [sel_all, ← hz] at q; exact q)
      obtain ⟨K0, hK0⟩ : ∃ K : Nat, 2 ^ rs.length = K := ⟨_, rfl⟩
      rw [hK0] at hpw HT
      have hU0 : ∀ m : Nat, m < 9 → IntKind.u64.wrap (2 ^ m) = ((2 ^ m : Nat) : Int) := by decide +kernel
      have hF0 := hU0 rs.length (by omega)
      rw [hK0] at hF0
      have HC0 := Lib.hid (fun h3 => (nkC_0 (x := ⟨n, rs⟩) (a := p) (b := q) HVV.out i1 i2 h3).symm.trans hr)
      have HC5 := Lib.hid (fun h3 => (nkC_5 (x := ⟨n, rs⟩) (a := p) (b := q) HVV.out i1 i2 h3).symm.trans hr)
      have hkw : wrap64 ((K0 : Int) - 1) = (K0 : Int) - 1 := by simp [wrap64, IntKind.wrap, IntKind.bits, IntKind.signed]; omega
      clear hU0 hK0 hr hv
      go_enter Try.func26, Try.ntmps26
      go_wp2_with fail
      refine (HV.out _ _ (HR.out.by (by ((repeat (first | (with_reducible exact Below.refl _ _) | (with_reducible refine below_drewN ?_ _) | (with_reducible refine Below.drew ?_) | (with_reducible refine below_al ?_ _) | (with_reducible refine below_on (by assumption) ?_) | ((with_reducible refine Below.setCell ?_ ?_ _); rotate_left; focus (first | omega | (simp; done) | (simp; omega))) | (with_reducible assumption))); done)))).mono ?_
      rintro e w1 ⟨rfl, hb1⟩
      have kA : Blk w1 w.heap.size #[.int .i64 (n : Int), .slice a0 rs.length c0] 26 := (by ((repeat (first | (with_reducible assumption) | (with_reducible refine Blk.drewN ?_ _) | (with_reducible refine Blk.drew ?_) | ((with_reducible refine Blk.new _ ?_); focus (first | omega | (simp; done) | (simp; omega))) | (with_reducible refine Blk.past ?_ _) | ((with_reducible refine Blk.apart ?_ _ _ _ ?_); rotate_left; focus (first | omega | (simp; done) | (simp; omega))) | (with_reducible refine Blk.by (by assumption) ?_))); done))
      have hW : Below w.heap.size w w1 := (by ((repeat (first | (with_reducible exact Below.refl _ _) | (with_reducible refine below_drewN ?_ _) | (with_reducible refine Below.drew ?_) | (with_reducible refine below_al ?_ _) | (with_reducible refine below_on (by assumption) ?_) | ((with_reducible refine Below.setCell ?_ ?_ _); rotate_left; focus (first | omega | (simp; done) | (simp; omega))) | (with_reducible assumption))); done))
      have qA := kA.cell
      have lA := kA.lt
      clear hb1
      go_wp2_with (go_at_call 33; refine (within_any _ _ _ _).mono ?_; rintro e w' ⟨rfl, rfl⟩)
      refine (HT.out _ (by omega) _ _ ⟨_, rfl, HR.out.by hW⟩).mono ?_
      rintro e w2 ⟨v2, rfl, hB2, hb2⟩
      have hI2 := hB2.own.sl
      obtain ⟨a1, c1, rfl⟩ := hB2.sized
      rw [length_labL] at hI2 ⊢
      rcases hI2 with ⟨_, _, _, h2'⟩ | ⟨lb, lf, lc, le, _, _, l4⟩
      · have := congrArg List.length h2'; rw [length_labL] at this; simp at this; omega
      rw [length_labL] at le
      obtain ⟨rfl, rfl⟩ : a1 = some ⟨lb, lf, none⟩ ∧ c1 = lc := by simpa using le
      have e1 := l4 p _ (labL_get (allL rs) (by omega))
      have e2 := l4 q _ (labL_get (allL rs) (by omega))
      replace hW := below_on hb2 hW
      have j1 : (0 : Int) ≤ (p : Int) := by omega
      have j2 : (p : Int) < (n : Int) := by omega
      have j3 : (0 : Int) ≤ (q : Int) := by omega
      have j4 : (q : Int) < (n : Int) := by omega
      clear hb2 hB2 l4 le kA qA lA i1 i2
      by_cases h3 : allL rs p = allL rs q
      · have hc := HC0.out h3
        rw [h3] at e1
        have HC := Lib.hid hc
        generalize allL rs q = Y at *
        clear hc h3
        go_wp2
        go_quiet (fail)
        go_wp2
        go_ret
        exact ⟨ret_i64 HC.out, below_drewN hW _⟩
      · have hc := HC5.out h3
        have HC := Lib.hid hc
        have hne : (((allL rs p : Nat) : Int) != ((allL rs q : Nat) : Int)) = true := by simp; omega
        clear hc h3
        go_wp2
        go_quiet (fail)
        go_wp2
        go_ret
        exact ⟨ret_i64 HC.out, below_drewN hW _⟩
    · have hc := (nkC_2 (x := ⟨n, rs⟩) (a := a) (b := b) hv hi).symm.trans hr
      have HC := Lib.hid hc
      clear hr hc hv
      rcases Bool.eq_false_or_eq_true (inB a 0 ((n : Int) - 1)) with i1 | i1
      · have i2 : inB b 0 ((n : Int) - 1) = false := by
          cases q : inB b 0 ((n : Int) - 1) with
          | true => exact absurd ⟨i1, q⟩ hi
          | false => rfl
        clear hi
        go_enter Try.func26, Try.ntmps26
        go_wp2_with fail
        refine (HV.out _ _ (HR.out.by (by ((repeat (first | (with_reducible exact Below.refl _ _) | (with_reducible refine below_drewN ?_ _) | (with_reducible refine Below.drew ?_) | (with_reducible refine below_al ?_ _) | (with_reducible refine below_on (by assumption) ?_) | ((with_reducible refine Below.setCell ?_ ?_ _); rotate_left; focus (first | omega | (simp; done) | (simp; omega))) | (with_reducible assumption))); done)))).mono ?_
        rintro e w1 ⟨rfl, hb1⟩
        have kA : Blk w1 w.heap.size #[.int .i64 (n : Int), .slice a0 rs.length c0] 26 := (by ((repeat (first | (with_reducible assumption) | (with_reducible refine Blk.drewN ?_ _) | (with_reducible refine Blk.drew ?_) | ((with_reducible refine Blk.new _ ?_); focus (first | omega | (simp; done) | (simp; omega))) | (with_reducible refine Blk.past ?_ _) | ((with_reducible refine Blk.apart ?_ _ _ _ ?_); rotate_left; focus (first | omega | (simp; done) | (simp; omega))) | (with_reducible refine Blk.by (by assumption) ?_))); done))
        have hW : Below w.heap.size w w1 := (by ((repeat (first | (with_reducible exact Below.refl _ _) | (with_reducible refine below_drewN ?_ _) | (with_reducible refine Below.drew ?_) | (with_reducible refine below_al ?_ _) | (with_reducible refine below_on (by assumption) ?_) | ((with_reducible refine Below.setCell ?_ ?_ _); rotate_left; focus (first | omega | (simp; done) | (simp; omega))) | (with_reducible assumption))); done))
        have qA := kA.cell
        have lA := kA.lt
        clear hb1
        go_wp2_with (go_at_call 33; refine (within_any _ _ _ _).mono ?_; rintro e w' ⟨rfl, rfl⟩)
        go_ret
        exact ⟨ret_i64 HC.out, hW⟩
      · clear hi
        go_enter Try.func26, Try.ntmps26
        go_wp2_with fail
        refine (HV.out _ _ (HR.out.by (by ((repeat (first | (with_reducible exact Below.refl _ _) | (with_reducible refine below_drewN ?_ _) | (with_reducible refine Below.drew ?_) | (with_reducible refine below_al ?_ _) | (with_reducible refine below_on (by assumption) ?_) | ((with_reducible refine Below.setCell ?_ ?_ _); rotate_left; focus (first | omega | (simp; done) | (simp; omega))) | (with_reducible assumption))); done)))).mono ?_
        rintro e w1 ⟨rfl, hb1⟩
        have kA : Blk w1 w.heap.size #[.int .i64 (n : Int), .slice a0 rs.length c0] 26 := (by ((repeat (first | (with_reducible assumption) | (with_reducible refine Blk.drewN ?_ _) | (with_reducible refine Blk.drew ?_) | ((with_reducible refine Blk.new _ ?_); focus (first | omega | (simp; done) | (simp; omega))) | (with_reducible refine Blk.past ?_ _) | ((with_reducible refine Blk.apart ?_ _ _ _ ?_); rotate_left; focus (first | omega | (simp; done) | (simp; omega))) | (with_reducible refine Blk.by (by assumption) ?_))); done))
        have hW : Below w.heap.size w w1 := (by ((repeat (first | (with_reducible exact Below.refl _ _) | (with_reducible refine below_drewN ?_ _) | (with_reducible refine Below.drew ?_) | (with_reducible refine below_al ?_ _) | (with_reducible refine below_on (by assumption) ?_) | ((with_reducible refine Below.setCell ?_ ?_ _); rotate_left; focus (first | omega | (simp; done) | (simp; omega))) | (with_reducible assumption))); done))
        have qA := kA.cell
        have lA := kA.lt
        clear hb1
        go_wp2_with (go_at_call 33; refine (within_any _ _ _ _).mono ?_; rintro e w' ⟨rfl, rfl⟩)
        go_ret
        exact ⟨ret_i64 HC.out, hW⟩
  · rw [hv] at HV
    have hc := (nkC_1 (x := ⟨nodes, rs⟩) (a := a) (b := b) hv).symm.trans hr
    have HC := Lib.hid hc
    clear hr hc hv
    go_enter Try.func26, Try.ntmps26
    go_wp2_with fail
    refine (HV.out _ _ (HR.out.by (by ((repeat (first | (with_reducible exact Below.refl _ _) | (with_reducible refine below_drewN ?_ _) | (with_reducible refine Below.drew ?_) | (with_reducible refine below_al ?_ _) | (with_reducible refine below_on (by assumption) ?_) | ((with_reducible refine Below.setCell ?_ ?_ _); rotate_left; focus (first | omega | (simp; done) | (simp; omega))) | (with_reducible assumption))); done)))).mono ?_
    rintro e w1 ⟨rfl, hb1⟩
    have hW : Below w.heap.size w w1 := (by ((repeat (first | (with_reducible exact Below.refl _ _) | (with_reducible refine below_drewN ?_ _) | (with_reducible refine Below.drew ?_) | (with_reducible refine below_al ?_ _) | (with_reducible refine below_on (by assumption) ?_) | ((with_reducible refine Below.setCell ?_ ?_ _); rotate_left; focus (first | omega | (simp; done) | (simp; omega))) | (with_reducible assumption))); done))
    clear hb1
    go_wp2
    go_ret
    exact ⟨ret_i64 HC.out, hW⟩
end Go.Proofs.Ytjolkdckhmmenaa
