/- Contracts and plain laws, part 9, for the statement's proof. -/
import Derived.Test.YtacbdmngcdhgoaaGreatPkRrLaw8
import Derived.Deep.DeepCutAuto
namespace Go.Proofs.YtacbdmngcdhgoaaGreat
open Go.RowKit
set_option linter.unusedVariables false
set_option linter.unusedSimpArgs false
set_option maxRecDepth 100000 in
set_option maxHeartbeats 4000000 in
theorem l26Check_any (x : Nw) (a b : Int) (v : Value) (w : World) (h : NwV w v x) (hok : ∀ r ∈ x.rs, r.ok) (hf : Fits x.nodes) :
    Calls Tryz.prog 69 #[v, .int .i64 a, .int .i64 b] w fun e w' => e = .returned (.int .i64 (nkC x a b)) ∧ Below w.heap.size w w' := by
  obtain ⟨r, hr⟩ : ∃ r, nkC x a b = r := ⟨_, rfl⟩
  rw [hr]
  obtain ⟨nodes, rs⟩ := x
  have HV := Lib.hid (fun sv w h => specValid_any nodes sv rs w h hok hf)
  obtain ⟨sv, rfl, hR⟩ := h
  dsimp only at *
  have HR := Lib.hid hR
  obtain ⟨a0, c0, rfl⟩ := hR.len
  clear hR hok
  rcases Bool.eq_false_or_eq_true (nwB nodes rs) with hv | hv
  · rw [hv] at HV
    obtain ⟨⟨n0, n1⟩, r8, _⟩ := nw_facts hv
    obtain ⟨n, rfl⟩ : ∃ n : Nat, nodes = n := ⟨nodes.toNat, by omega⟩
    have HVV := Lib.hid hv
    by_cases hi : inB a 0 ((n : Int) - 1) = true ∧ inB b 0 ((n : Int) - 1) = true
    · obtain ⟨i1, i2⟩ := hi
      have b1 := inB_iff.1 i1
      have b2 := inB_iff.1 i2
      obtain ⟨p, rfl⟩ : ∃ p : Nat, a = p := ⟨a.toNat, by omega⟩
      obtain ⟨q, rfl⟩ : ∃ q : Nat, b = q := ⟨b.toNat, by omega⟩
      have hpw := pow_small r8
      have HT := Lib.hid (fun (z : Int) (hz : z = ((2 ^ rs.length - 1 : Nat) : Int)) v w (h : NwV w v ⟨n, rs⟩) => show Calls Tryz.prog 106 #[v, .int .i64 z] w fun e w' => ∃ v', e = .returned v' ∧ BldI w' w.heap.size w'.heap.size v' (labL n (allL rs)) ∧ Below w.heap.size w w' from by have q := l26Trees_any n rs (2 ^ rs.length - 1) v w h (nw_ok (x := ⟨n, rs⟩) HVV.out rfl) (by omega); rw [sel_all, ← hz] at q; exact q)
      obtain ⟨K0, hK0⟩ : ∃ K : Nat, 2 ^ rs.length = K := ⟨_, rfl⟩
      rw [hK0] at hpw HT
      have hU0 : ∀ m : Nat, m < 9 → wrap64 (2 ^ m) = ((2 ^ m : Nat) : Int) := by decide +kernel
      have hF0 := hU0 rs.length (by omega)
      rw [hK0] at hF0
      have HC0 := Lib.hid (fun h3 => (nkC_0 (x := ⟨n, rs⟩) (a := p) (b := q) HVV.out i1 i2 h3).symm.trans hr)
      have HC5 := Lib.hid (fun h3 => (nkC_5 (x := ⟨n, rs⟩) (a := p) (b := q) HVV.out i1 i2 h3).symm.trans hr)
      have hkw : wrap64 ((K0 : Int) - 1) = (K0 : Int) - 1 := by simp [wrap64, IntKind.wrap, IntKind.bits, IntKind.signed]; omega
      clear hU0 hK0 hr hv
      go_enter Tryz.func69, Tryz.ntmps69
      go_wp2_with fail
      refine (HV.out _ _ (HR.out.by blwT)).mono ?_
      rintro e w1 ⟨rfl, hb1⟩
      have kA : Blk w1 w.heap.size #[.int .i64 (n : Int), .slice a0 rs.length c0] 55 := blkT
      have hW : Below w.heap.size w w1 := blwT
      have qA := kA.cell
      have lA := kA.lt
      clear hb1
      go_wp2_with (go_at_call 63; refine (l16In_any _ _ _ _).mono ?_; rintro e w' ⟨rfl, rfl⟩)
      refine (HT.out _ (by omega) _ _ ⟨_, rfl, HR.out.by hW⟩).mono ?_
      rintro e w2 ⟨v2, rfl, hB2, hb2⟩
      have hI2 := hB2.own.sl
      obtain ⟨a1, c1, rfl⟩ := hB2.sized
      rw [length_labL] at hI2 ⊢
      rcases hI2 with ⟨_, _, _, h2'⟩ | ⟨lb, lf, lc, le, _, _, l4⟩
      · have := congrArg List.length h2'; rw [length_labL] at this; simp at this; omega
      rw [length_labL] at le
      obtain ⟨rfl, rfl⟩ : a1 = some ⟨lb, lf, none⟩ ∧ c1 = lc := by simpa using le
      have e1 := l4 p _ (labL_get (allL rs) (by omega))
      have e2 := l4 q _ (labL_get (allL rs) (by omega))
      replace hW := below_on hb2 hW
      have j1 : (0 : Int) ≤ (p : Int) := by omega
      have j2 : (p : Int) < (n : Int) := by omega
      have j3 : (0 : Int) ≤ (q : Int) := by omega
      have j4 : (q : Int) < (n : Int) := by omega
      clear hb2 hB2 l4 le kA qA lA i1 i2
      by_cases h3 : allL rs p = allL rs q
      · have hc := HC0.out h3
        rw [h3] at e1
        have HC := Lib.hid hc
        generalize allL rs q = Y at *
        clear hc h3
        go_wp2
        go_quiet (fail)
        go_wp2
        go_ret
        exact ⟨ret_i64 HC.out, below_drewN hW _⟩
      · have hc := HC5.out h3
        have HC := Lib.hid hc
        have hne : (((allL rs p : Nat) : Int) != ((allL rs q : Nat) : Int)) = true := by simp; omega
        clear hc h3
        go_wp2
        go_quiet (fail)
        go_wp2
        go_ret
        exact ⟨ret_i64 HC.out, below_drewN hW _⟩
    · have hc := (nkC_2 (x := ⟨n, rs⟩) (a := a) (b := b) hv hi).symm.trans hr
      have HC := Lib.hid hc
      clear hr hc hv
      rcases Bool.eq_false_or_eq_true (inB a 0 ((n : Int) - 1)) with i1 | i1
      · have i2 : inB b 0 ((n : Int) - 1) = false := by
          cases q : inB b 0 ((n : Int) - 1) with
          | true => exact absurd ⟨i1, q⟩ hi
          | false => rfl
        clear hi
        go_enter Tryz.func69, Tryz.ntmps69
        go_wp2_with fail
        refine (HV.out _ _ (HR.out.by blwT)).mono ?_
        rintro e w1 ⟨rfl, hb1⟩
        have kA : Blk w1 w.heap.size #[.int .i64 (n : Int), .slice a0 rs.length c0] 55 := blkT
        have hW : Below w.heap.size w w1 := blwT
        have qA := kA.cell
        have lA := kA.lt
        clear hb1
        go_wp2_with (go_at_call 63; refine (l16In_any _ _ _ _).mono ?_; rintro e w' ⟨rfl, rfl⟩)
        go_ret
        exact ⟨ret_i64 HC.out, hW⟩
      · clear hi
        go_enter Tryz.func69, Tryz.ntmps69
        go_wp2_with fail
        refine (HV.out _ _ (HR.out.by blwT)).mono ?_
        rintro e w1 ⟨rfl, hb1⟩
        have kA : Blk w1 w.heap.size #[.int .i64 (n : Int), .slice a0 rs.length c0] 55 := blkT
        have hW : Below w.heap.size w w1 := blwT
        have qA := kA.cell
        have lA := kA.lt
        clear hb1
        go_wp2_with (go_at_call 63; refine (l16In_any _ _ _ _).mono ?_; rintro e w' ⟨rfl, rfl⟩)
        go_ret
        exact ⟨ret_i64 HC.out, hW⟩
  · rw [hv] at HV
    have hc := (nkC_1 (x := ⟨nodes, rs⟩) (a := a) (b := b) hv).symm.trans hr
    have HC := Lib.hid hc
    clear hr hc hv
    go_enter Tryz.func69, Tryz.ntmps69
    go_wp2_with fail
    refine (HV.out _ _ (HR.out.by blwT)).mono ?_
    rintro e w1 ⟨rfl, hb1⟩
    have hW : Below w.heap.size w w1 := blwT
    clear hb1
    go_wp2
    go_ret
    exact ⟨ret_i64 HC.out, hW⟩
set_option maxRecDepth 100000 in
set_option maxHeartbeats 4000000 in
theorem networkCode_any (x : Nw) (a b : Int) (v : Value) (w : World) (h : NwV w v x) (hok : ∀ r ∈ x.rs, r.ok) (hf : Fits x.nodes) :
    Calls Tryz.prog 91 #[v, .int .i64 a, .int .i64 b] w fun e w' => e = .returned (.int .i64 (nkC x a b)) ∧ Below w.heap.size w w' := by
  obtain ⟨r, hr⟩ : ∃ r, nkC x a b = r := ⟨_, rfl⟩
  rw [hr]
  obtain ⟨nodes, rs⟩ := x
  have HV := Lib.hid (fun sv w h => implValid_any nodes sv rs w h hok hf)
  obtain ⟨sv, rfl, hR⟩ := h
  dsimp only at *
  have HR := Lib.hid hR
  obtain ⟨a0, c0, rfl⟩ := hR.len
  clear hR hok
  rcases Bool.eq_false_or_eq_true (nwB nodes rs) with hv | hv
  · rw [hv] at HV
    obtain ⟨⟨n0, n1⟩, r8, _⟩ := nw_facts hv
    obtain ⟨n, rfl⟩ : ∃ n : Nat, nodes = n := ⟨nodes.toNat, by omega⟩
    have HVV := Lib.hid hv
    by_cases hi : inB a 0 ((n : Int) - 1) = true ∧ inB b 0 ((n : Int) - 1) = true
    · obtain ⟨i1, i2⟩ := hi
      have b1 := inB_iff.1 i1
      have b2 := inB_iff.1 i2
      obtain ⟨p, rfl⟩ : ∃ p : Nat, a = p := ⟨a.toNat, by omega⟩
      obtain ⟨q, rfl⟩ : ∃ q : Nat, b = q := ⟨b.toNat, by omega⟩
      have hpw := pow_small r8
      have HT := Lib.hid (fun (z : Int) (hz : z = ((2 ^ rs.length - 1 : Nat) : Int)) v w (h : NwV w v ⟨n, rs⟩) => show Calls Tryz.prog 117 #[v, .int .u64 z] w fun e w' => ∃ v', e = .returned v' ∧ BldI w' w.heap.size w'.heap.size v' (labL n (allL rs)) ∧ Below w.heap.size w w' from by have q := groups_any n rs (2 ^ rs.length - 1) v w h (nw_ok (x := ⟨n, rs⟩) HVV.out rfl) (by omega); rw [sel_all, ← hz] at q; exact q)
      obtain ⟨K0, hK0⟩ : ∃ K : Nat, 2 ^ rs.length = K := ⟨_, rfl⟩
      rw [hK0] at hpw HT
      have hU0 : ∀ m : Nat, m < 9 → IntKind.u64.wrap (2 ^ m) = ((2 ^ m : Nat) : Int) := by decide +kernel
      have hF0 := hU0 rs.length (by omega)
      rw [hK0] at hF0
      have HC0 := Lib.hid (fun h3 => (nkC_0 (x := ⟨n, rs⟩) (a := p) (b := q) HVV.out i1 i2 h3).symm.trans hr)
      have HC5 := Lib.hid (fun h3 => (nkC_5 (x := ⟨n, rs⟩) (a := p) (b := q) HVV.out i1 i2 h3).symm.trans hr)
      have hkw : wrap64 ((K0 : Int) - 1) = (K0 : Int) - 1 := by simp [wrap64, IntKind.wrap, IntKind.bits, IntKind.signed]; omega
      clear hU0 hK0 hr hv
      go_enter Tryz.func91, Tryz.ntmps91
      go_wp2_with fail
      refine (HV.out _ _ (HR.out.by blwT)).mono ?_
      rintro e w1 ⟨rfl, hb1⟩
      have kA : Blk w1 w.heap.size #[.int .i64 (n : Int), .slice a0 rs.length c0] 55 := blkT
      have hW : Below w.heap.size w w1 := blwT
      have qA := kA.cell
      have lA := kA.lt
      clear hb1
      go_wp2_with (go_at_call 37; refine (within_any _ _ _ _).mono ?_; rintro e w' ⟨rfl, rfl⟩)
      refine (HT.out _ (by omega) _ _ ⟨_, rfl, HR.out.by hW⟩).mono ?_
      rintro e w2 ⟨v2, rfl, hB2, hb2⟩
      have hI2 := hB2.own.sl
      obtain ⟨a1, c1, rfl⟩ := hB2.sized
      rw [length_labL] at hI2 ⊢
      rcases hI2 with ⟨_, _, _, h2'⟩ | ⟨lb, lf, lc, le, _, _, l4⟩
      · have := congrArg List.length h2'; rw [length_labL] at this; simp at this; omega
      rw [length_labL] at le
      obtain ⟨rfl, rfl⟩ : a1 = some ⟨lb, lf, none⟩ ∧ c1 = lc := by simpa using le
      have e1 := l4 p _ (labL_get (allL rs) (by omega))
      have e2 := l4 q _ (labL_get (allL rs) (by omega))
      replace hW := below_on hb2 hW
      have j1 : (0 : Int) ≤ (p : Int) := by omega
      have j2 : (p : Int) < (n : Int) := by omega
      have j3 : (0 : Int) ≤ (q : Int) := by omega
      have j4 : (q : Int) < (n : Int) := by omega
      clear hb2 hB2 l4 le kA qA lA i1 i2
      by_cases h3 : allL rs p = allL rs q
      · have hc := HC0.out h3
        rw [h3] at e1
        have HC := Lib.hid hc
        generalize allL rs q = Y at *
        clear hc h3
        go_wp2
        go_quiet (fail)
        go_wp2
        go_ret
        exact ⟨ret_i64 HC.out, below_drewN hW _⟩
      · have hc := HC5.out h3
        have HC := Lib.hid hc
        have hne : (((allL rs p : Nat) : Int) != ((allL rs q : Nat) : Int)) = true := by simp; omega
        clear hc h3
        go_wp2
        go_quiet (fail)
        go_wp2
        go_ret
        exact ⟨ret_i64 HC.out, below_drewN hW _⟩
    · have hc := (nkC_2 (x := ⟨n, rs⟩) (a := a) (b := b) hv hi).symm.trans hr
      have HC := Lib.hid hc
      clear hr hc hv
      rcases Bool.eq_false_or_eq_true (inB a 0 ((n : Int) - 1)) with i1 | i1
      · have i2 : inB b 0 ((n : Int) - 1) = false := by
          cases q : inB b 0 ((n : Int) - 1) with
          | true => exact absurd ⟨i1, q⟩ hi
          | false => rfl
        clear hi
        go_enter Tryz.func91, Tryz.ntmps91
        go_wp2_with fail
        refine (HV.out _ _ (HR.out.by blwT)).mono ?_
        rintro e w1 ⟨rfl, hb1⟩
        have kA : Blk w1 w.heap.size #[.int .i64 (n : Int), .slice a0 rs.length c0] 55 := blkT
        have hW : Below w.heap.size w w1 := blwT
        have qA := kA.cell
        have lA := kA.lt
        clear hb1
        go_wp2_with (go_at_call 37; refine (within_any _ _ _ _).mono ?_; rintro e w' ⟨rfl, rfl⟩)
        go_ret
        exact ⟨ret_i64 HC.out, hW⟩
      · clear hi
        go_enter Tryz.func91, Tryz.ntmps91
        go_wp2_with fail
        refine (HV.out _ _ (HR.out.by blwT)).mono ?_
        rintro e w1 ⟨rfl, hb1⟩
        have kA : Blk w1 w.heap.size #[.int .i64 (n : Int), .slice a0 rs.length c0] 55 := blkT
        have hW : Below w.heap.size w w1 := blwT
        have qA := kA.cell
        have lA := kA.lt
        clear hb1
        go_wp2_with (go_at_call 37; refine (within_any _ _ _ _).mono ?_; rintro e w' ⟨rfl, rfl⟩)
        go_ret
        exact ⟨ret_i64 HC.out, hW⟩
  · rw [hv] at HV
    have hc := (nkC_1 (x := ⟨nodes, rs⟩) (a := a) (b := b) hv).symm.trans hr
    have HC := Lib.hid hc
    clear hr hc hv
    go_enter Tryz.func91, Tryz.ntmps91
    go_wp2_with fail
    refine (HV.out _ _ (HR.out.by blwT)).mono ?_
    rintro e w1 ⟨rfl, hb1⟩
    have hW : Below w.heap.size w w1 := blwT
    clear hb1
    go_wp2
    go_ret
    exact ⟨ret_i64 HC.out, hW⟩
def ones1 (s : Nat) : Nat := (IntKind.u64.wrap (bits BinOp.and IntKind.u64 ((s : Int) / 2) 6148914691236517205 + bits BinOp.and IntKind.u64 ((s : Int)) 6148914691236517205)).toNat
theorem ones1_eq : ∀ s : Nat, s < 256 → IntKind.u64.wrap (bits BinOp.and IntKind.u64 ((s : Int) / 2) 6148914691236517205 + bits BinOp.and IntKind.u64 ((s : Int)) 6148914691236517205) = ((ones1 s : Nat) : Int) := by decide +kernel
def ones2 (s : Nat) : Nat := (IntKind.u64.wrap (bits BinOp.and IntKind.u64 (((ones1 s : Nat) : Int) / 4) 3689348814741910323 + bits BinOp.and IntKind.u64 (((ones1 s : Nat) : Int)) 3689348814741910323)).toNat
theorem ones2_eq : ∀ s : Nat, s < 256 → IntKind.u64.wrap (bits BinOp.and IntKind.u64 (((ones1 s : Nat) : Int) / 4) 3689348814741910323 + bits BinOp.and IntKind.u64 (((ones1 s : Nat) : Int)) 3689348814741910323) = ((ones2 s : Nat) : Int) := by decide +kernel
def ones3 (s : Nat) : Nat := (bits BinOp.and IntKind.u64 (((ones2 s : Nat) : Int) / 16 + ((ones2 s : Nat) : Int)) 1085102592571150095).toNat
theorem ones3_eq : ∀ s : Nat, s < 256 → bits BinOp.and IntKind.u64 (((ones2 s : Nat) : Int) / 16 + ((ones2 s : Nat) : Int)) 1085102592571150095 = ((ones3 s : Nat) : Int) := by decide +kernel
def ones4 (s : Nat) : Nat := ((((ones3 s : Nat) : Int) + ((ones3 s : Nat) : Int) / 256)).toNat
theorem ones4_eq : ∀ s : Nat, s < 256 → (((ones3 s : Nat) : Int) + ((ones3 s : Nat) : Int) / 256) = ((ones4 s : Nat) : Int) := by decide +kernel
def ones5 (s : Nat) : Nat := ((((ones4 s : Nat) : Int) + ((ones4 s : Nat) : Int) / 65536)).toNat
theorem ones5_eq : ∀ s : Nat, s < 256 → (((ones4 s : Nat) : Int) + ((ones4 s : Nat) : Int) / 65536) = ((ones5 s : Nat) : Int) := by decide +kernel
def ones6 (s : Nat) : Nat := ((((ones5 s : Nat) : Int) + ((ones5 s : Nat) : Int) / 4294967296)).toNat
theorem ones6_eq : ∀ s : Nat, s < 256 → (((ones5 s : Nat) : Int) + ((ones5 s : Nat) : Int) / 4294967296) = ((ones6 s : Nat) : Int) := by decide +kernel
theorem ones7_eq : ∀ s : Nat, s < 256 → ones6 s < 100000 ∧ bits BinOp.and IntKind.i64 ((ones6 s : Nat) : Int) 127 = ((cntF (bit s) 8 : Nat) : Int) := by decide +kernel
theorem ones_bd : ∀ s : Nat, s < 256 → ones1 s < 100000 ∧ ones2 s < 100000 ∧ ones3 s < 100000 ∧ ones4 s < 100000 ∧ ones5 s < 100000 := by decide +kernel
set_option maxRecDepth 100000 in
set_option maxHeartbeats 1000000 in
theorem ones64_any (s : Nat) (hs : s < 256) (w : World) :
    Calls Tryz.prog 124 #[.int .u64 (s : Int)] w fun e w' => e = .returned (.int .i64 (cntF (bit s) 8 : Nat)) ∧ w = w' := by
  have e1 := ones1_eq s hs
  have e2 := ones2_eq s hs
  have e3 := ones3_eq s hs
  have e4 := ones4_eq s hs
  have e5 := ones5_eq s hs
  have e6 := ones6_eq s hs
  obtain ⟨b6, e7⟩ := ones7_eq s hs
  obtain ⟨b1, b2, b3, b4, b5⟩ := ones_bd s hs
  go_enter Tryz.func124, Tryz.ntmps124
  go_upto_region 2 with fail
  try rw [e1]
  go_upto_region 3 with fail
  try rw [e2]
  go_upto_region 4 with fail
  try rw [e3]
  go_upto_region 5 with fail
  try rw [e4]
  go_upto_region 6 with fail
  try rw [e5]
  go_upto_region 7 with fail
  try rw [e6]
  go_wp2
  go_ret
  exact ⟨by first | rfl | (rw [e7]), rfl⟩
theorem ones_any (s : Nat) (hs : s < 256) (w : World) :
    Calls Tryz.prog 118 #[.int .u64 (s : Int)] w fun e w' => e = .returned (.int .i64 (cntF (bit s) 8 : Nat)) ∧ w = w' := by
  have H := Lib.hid (fun w => ones64_any s hs w)
  go_enter Tryz.func118, Tryz.ntmps118
  go_wp2_with fail
  refine (H.out _).mono ?_
  rintro e w' ⟨rfl, rfl⟩
  go_wp2
  go_ret
  exact ⟨rfl, rfl⟩
theorem cnt8 {s m : Nat} (hs : s < 2 ^ m) (hm : m ≤ 8) : cntF (bit s) 8 = cntF (bit s) m := by
  have key : ∀ k, cntF (bit s) (m + k) = cntF (bit s) m := by
    intro k
    induction k with
    | zero => rfl
    | succ k ih =>
      show cntF (bit s) (m + k) + (if bit s (m + k) = true then 1 else 0) = _
      have : bit s (m + k) = false := Nat.testBit_lt_two_pow (Nat.lt_of_lt_of_le hs (Nat.pow_le_pow_right (by omega) (by omega)))
      rw [ih, this]; simp
  have := key (8 - m)
  rwa [show m + (8 - m) = 8 by omega] at this
theorem bit_smallV : ∀ s : Nat, s < 256 → ∀ i : Nat, i < 8 → (bits BinOp.and IntKind.u64 ((s : Int) / 2 ^ i) 1 == 1) = bit s i := by decide +kernel
theorem com_step {rs : List Res} {a k : Nat} : comNL rs a (k + 1) = comNL rs a k + if allL rs k = allL rs a then 1 else 0 := by
  unfold comNL; simp only [cnB, decide_eq_true_eq]
theorem com_le {rs : List Res} {a n : Nat} : comNL rs a n ≤ n := by
  induction n with
  | zero => exact Nat.le_refl _
  | succ k ih => rw [com_step]; split <;> omega
theorem treN_part (rs : List Res) (a n s : Nat) : treN rs a n s = cnB (fun v => decide (allL rs v = allL rs a) && decide ((parP n rs a).L s v = v)) n := rfl
theorem cnB_le (p : Nat → Bool) (n : Nat) : cnB p n ≤ n := by
  induction n with
  | zero => exact Nat.le_refl _
  | succ k ih => simp only [cnB]; split <;> omega
theorem cnB_yes {p : Nat → Bool} {k : Nat} (h : p k = true) : cnB p (k + 1) = cnB p k + 1 := by simp only [cnB, if_pos h]
theorem cnB_no {p : Nat → Bool} {k : Nat} (h : p k = false) : cnB p (k + 1) = cnB p k := by simp only [cnB, h]; simp
set_option maxRecDepth 100000 in
set_option maxHeartbeats 16000000 in
theorem solve_any (n : Nat) (rs : List Res) (a b : Nat) (v : Value) (w : World) (h : NwV w v ⟨n, rs⟩) (hok0 : NwOk n rs) (hok : PtOk n (partR rs a)) (ha : a < n) (hb0 : b < n) :
    Calls Tryz.prog 92 #[v, .int .i64 (a : Int), .int .i64 (b : Int)] w fun e w' => ∃ g, e = .returned (.tuple #[.slice (some ⟨g, 0, none⟩) n n, .int .i64 (parP n rs a).tot]) ∧ FBlk w' g n ((parP n rs a).top a b) ∧ w.heap.size ≤ g ∧ Below w.heap.size w w' := by
  have HOK0 := Lib.hid hok0
  have HOK := Lib.hid hok
  have hpw0 := pow_small hok0.2.1
  have hpl : (partR rs a).length ≤ 8 := Nat.le_trans (part_len rs a) hok0.2.1
  have hpw := pow_small hpl
  have HG0 := Lib.hid (fun (z : Int) (hz : z = ((2 ^ rs.length - 1 : Nat) : Int)) v w (h : NwV w v ⟨n, rs⟩) => show Calls Tryz.prog 117 #[v, .int .u64 z] w fun e w' => ∃ v', e = .returned v' ∧ BldI w' w.heap.size w'.heap.size v' (labL n (allL rs)) ∧ Below w.heap.size w w' from by have q := groups_any n rs (2 ^ rs.length - 1) v w h HOK0.out (by omega); rw [sel_all, ← hz] at q; exact q)
  obtain ⟨hn6, hr8, _⟩ := hok0
  obtain ⟨K0, hK0⟩ : ∃ K : Nat, 2 ^ rs.length = K := ⟨_, rfl⟩
  rw [hK0] at hpw0 HG0
  have hU0 : ∀ m : Nat, m < 9 → IntKind.u64.wrap (2 ^ m) = ((2 ^ m : Nat) : Int) := by decide +kernel
  have hF0 := hU0 rs.length (by omega)
  rw [hK0] at hF0
  have HV := Lib.hid h
  obtain ⟨sv, rfl, hR⟩ := h
  have HR := Lib.hid hR
  obtain ⟨a0, c0, rfl⟩ := hR.len
  clear hR hok hU0
  have HK0 := Lib.hid hK0
  clear hK0
  go_enter Tryz.func92, Tryz.ntmps92
  go_wp2_with fail
  refine (HG0.out _ (by omega) _ _ (HV.out.by blwT)).mono ?_
  rintro e w1 ⟨v1, rfl, hB1, hb1⟩
  have kA : Blk w1 w.heap.size #[.int .i64 (n : Int), .slice a0 rs.length c0] 55 := blkT
  have hW : Below w.heap.size w w1 := blwT
  have hs1 := hb1.size
  simp only [World.size_alloc] at hs1
  obtain ⟨a1, c1, rfl⟩ := hB1.sized
  rw [length_labL] at hB1 ⊢
  have HB1 := Lib.hid hB1.own.sl
  have qA := kA.cell
  have lA := kA.lt
  obtain ⟨T, hT⟩ : ∃ T, w1.heap.size = T := ⟨_, rfl⟩
  have hTT := Nat.le_of_eq hT
  have hTT2 := Nat.le_of_eq hT.symm
  have HL := Lib.hid hT
  clear hB1 hb1 HG0 HV hT
  go_wp2
  rw [HL.out]
  go_loopw [41] (fun i wr => ∃ (k hi : Nat) (v' : Value), k ≤ rs.length ∧ i = .int .i64 (k : Int) ∧ Hid (BldRes wr (T + 1) hi v' (partR' rs a k)) ∧ Blk wr T #[.int .i64 (n : Int), v'] 55 ∧ T + 1 ≤ hi ∧ Blk wr w.heap.size #[.int .i64 (n : Int), .slice a0 rs.length c0] 55 ∧ Below w1.heap.size w1 wr ∧ Below w.heap.size w wr) (fun i _ => rs.length - (intOf i).toNat)
  case atStart =>
    refine ⟨0, T + 1, .slice none 0 0, Nat.zero_le _, rfl, Lib.hid ?_, ?_, Nat.le_refl _, blkT, (by repeat (first | (with_reducible exact Below.refl _ _) | (with_reducible refine below_al ?_ _))), blwT⟩
    · have := BldRes.nil (w1.alloc (.cells #[.int .i64 (n : Int), .slice none 0 0] 55)) (T + 1)
      have e : (w1.alloc (.cells #[.int .i64 (n : Int), .slice none 0 0] 55)).heap.size = T + 1 := by simp; omega
      rw [e] at this
      first | exact this | exact BldRes.by (by first | exact Below.refl _ _ | ((repeat (first | (with_reducible exact Below.refl _ _) | (with_reducible refine below_drewN ?_ _) | (with_reducible refine Below.drew ?_) | (with_reducible refine below_al ?_ _) | (with_reducible refine below_on (by assumption) ?_) | ((with_reducible refine Below.setCell ?_ ?_ _); rotate_left; focus (first | omega | (simp; done) | (simp; omega))) | (with_reducible assumption))); done)) this
    · first | exact Blk.new _ HL.out.symm | ((repeat (first | (with_reducible assumption) | (with_reducible refine Blk.drewN ?_ _) | (with_reducible refine Blk.drew ?_) | ((with_reducible refine Blk.new _ ?_); focus (first | omega | (simp; done) | (simp; omega))) | (with_reducible refine Blk.past ?_ _) | ((with_reducible refine Blk.apart ?_ _ _ _ ?_); rotate_left; focus (first | omega | (simp; done) | (simp; omega))) | (with_reducible refine Blk.by (by assumption) ?_))); done)
  case round =>
    clear kA hW qA lA
    obtain ⟨k, hi, v', hk, rfl, HB, kO, hhi, kA, HBW, hb⟩ := hrel
    have HL1 := Lib.hid (HB1.out.by HBW)
    have hzw := HBW.size
    obtain ⟨au, cu, rfl⟩ := HB.out.sized
    obtain ⟨L, hL⟩ : ∃ L, (partR' rs a k).length = L := ⟨_, rfl⟩
    have hLk : L ≤ k := by rw [← hL]; exact Nat.le_trans (List.length_filter_le _ _) (List.length_take_le _ _)
    have HLL := Lib.hid hL
    rw [hL] at HB kO
    clear hL
    have qA := kA.cell
    have lA := kA.lt
    have lO := kO.lt
    have hIs := HB.out.1
    by_cases hlt : k < rs.length
    · obtain ⟨x, hx⟩ : ∃ x, rs[k]? = some x := ⟨_, List.getElem?_eq_getElem hlt⟩
      obtain ⟨p, q, ep, eq, hp, hq, hE⟩ := HOK0.out.at hx
      have HPT := Lib.hid (part_take (b := a) hx)
      rcases HR.out with ⟨_, _, _, h2⟩ | ⟨bb, off, cap, he, h2, h3, h4⟩
      · rw [h2] at hlt; simp at hlt
      obtain ⟨rfl, rfl⟩ : a0 = some ⟨bb, off, none⟩ ∧ c0 = cap := by simpa using he
      obtain ⟨d0, d1, d2, d3⟩ := (h4 k x hx).by hb
      rw [ep] at d0
      rw [eq] at d1
      rcases HL1.out with ⟨_, _, _, h2'⟩ | ⟨lb, lf, lc, le, _, _, l4⟩
      · have := congrArg List.length h2'; rw [length_labL] at this; simp at this; omega
      rw [length_labL] at le
      obtain ⟨rfl, rfl⟩ : a1 = some ⟨lb, lf, none⟩ ∧ c1 = lc := by simpa using le
      have e1 := l4 p _ (labL_get (allL rs) hp)
      have e2 := l4 a _ (labL_get (allL rs) ha)
      have e1b : lb < wr.heap.size := by
        rcases Nat.lt_or_ge lb wr.heap.size with h' | h'
        · exact h'
        · simp [World.cell?, Array.getElem?_eq_none h'] at e1
      have j1 : (0 : Int) ≤ (k : Int) := by omega
      have j2 : (k : Int) < (rs.length : Int) := by omega
      have j3 : (0 : Int) ≤ (p : Int) := by omega
      have j4 : (p : Int) < (n : Int) := by omega
      have j5 : (0 : Int) ≤ (a : Int) := by omega
      have j6 : (a : Int) < (n : Int) := by omega
      have HEP := Lib.hid (show x = ⟨p, q, x.num, x.den⟩ from by cases x; simp only at ep eq; subst ep eq; rfl)
      have HXA := Lib.hid (show x.a.toNat = p by omega)
      obtain ⟨X, hX⟩ : ∃ X, x.num = X := ⟨_, rfl⟩
      obtain ⟨Y, hY⟩ : ∃ Y, x.den = Y := ⟨_, rfl⟩
      rw [hX] at d2 HEP
      rw [hY] at d3 HEP
      clear h4 l4 he le hx ep eq hE hX hY
      by_cases hm : allL rs p = allL rs a
      · rw [HXA.out, if_pos hm] at HPT
        rw [hm] at e1
        clear hm
        go_wp2
        go_quiet (fail)
        have hbz : Below wr.heap.size wr ((wr.alloc (.cells #[.int .i64 (p : Int), .int .i64 (q : Int), .int .i64 X, .int .i64 Y] 57)).drewN nq) := below_drewN ((Below.refl _ wr).alloc (Nat.le_refl _) _) nq
        have kN : Blk ((wr.alloc (.cells #[.int .i64 (p : Int), .int .i64 (q : Int), .int .i64 X, .int .i64 Y] 57)).drewN nq) wr.heap.size #[.int .i64 (p : Int), .int .i64 (q : Int), .int .i64 X, .int .i64 Y] 57 := Blk.drewN (Blk.new _ rfl) nq
        replace kA := Blk.by hbz kA
        replace kO := Blk.by hbz kO
        replace HB := Lib.hid (HB.out.by hbz)
        replace HBW := below_on hbz HBW
        replace hb := below_on hbz hb
        clear hbz d0 d1 d2 d3 e1 e2 qA lA lO hIs hzw HL1 e1b
        have hzw := HBW.size
        generalize wr.heap.size = NR at *
        generalize (wr.alloc (.cells #[.int .i64 (p : Int), .int .i64 (q : Int), .int .i64 X, .int .i64 Y] 57)).drewN nq = wz at *
        have qA := kA.cell
        have lA := kA.lt
        have qO := kO.cell
        have fO := kO.free
        have lO := kO.lt
        have qN := kN.cell
        have lN := kN.lt
        have hIs := HB.out.1
        go_wp2_with (refine list_pushRes (by rfl) _ _ (by rfl) (T + 1) hi (.slice au L cu) (partR' rs a k) (by rfl) (HB.out.by blwT) wz.heap.size ⟨p, q, X, Y⟩ (by rfl) (Blk.new _ rfl) hhi (by have := HLL.out; omega) ?_; intro a5 c5 w5 hB5 hw5; have HB5 := Lib.hid hB5; rw [HLL.out]; clear hB5; have kO5 := hw5.blk (kO.past (.cells #[.int .i64 (p : Int), .int .i64 (q : Int), .int .i64 X, .int .i64 Y] 57)) (by omega); have cO5 : w5.cell? ⟨T, 1, none⟩ = some (.slice au L cu) := kO5.cell 1; have fO5 : w5.frozen? ⟨T, 1, none⟩ = false := kO5.free 1; have lO5 := kO5.lt)
        have hll := HLL.out
        have hb5 := HB5.out
        rw [hll] at hb5
        have hsz5 := hw5.size
        simp only [World.size_alloc] at hsz5
        have kA5 := hw5.blk (kA.past (.cells #[.int .i64 (p : Int), .int .i64 (q : Int), .int .i64 X, .int .i64 Y] 57)) (by omega)
        have hb5w := hw5.below (below_al HBW (.cells #[.int .i64 (p : Int), .int .i64 (q : Int), .int .i64 X, .int .i64 Y] 57)) (by omega)
        have hb5v := hw5.below (below_al hb (.cells #[.int .i64 (p : Int), .int .i64 (q : Int), .int .i64 X, .int .i64 Y] 57)) (by omega)
        have hW4 : Within T (T + 1) w5 (w5.setCell ⟨T, 1, none⟩ (.slice a5 (L + 1) c5)) := Within.off _
        refine ⟨⟨k + 1, w5.heap.size, .slice a5 (L + 1) c5, by omega, by go_num, Lib.hid ?_, kO5.set 1 _, by omega, kA5.apart _ _ _ (by omega), hW4.below hb5w (by omega), hb5v.setCell (by simp; omega) _⟩, by simp [intOf]; omega⟩
        rw [HPT.out, HEP.out]
        exact BldRes.past hW4 hb5 (by omega)
      · rw [HXA.out, if_neg hm] at HPT
        have hne : (((allL rs p : Nat) : Int) == ((allL rs a : Nat) : Int)) = false := by simp; omega
        generalize allL rs p = Y1 at e1 hne
        generalize allL rs a = Y2 at e2 hne
        clear hm
        go_wp2
        go_quiet (fail)
        go_wp2
        exact ⟨⟨k + 1, hi, .slice au L cu, by omega, by go_num, Lib.hid (by rw [HPT.out]; exact HB.out.by blwT), blkT, hhi, blkT, below_drewN (below_al HBW _) _, blwT⟩, by simp [intOf]; omega⟩
    · obtain rfl : k = rs.length := by omega
      have i2 : ¬ (rs.length : Int) < (rs.length : Int) := by omega
      have hPA : partR' rs a rs.length = partR rs a := by unfold partR' partR; rw [List.take_length]
      rw [hPA] at HB HLL
      clear hPA
      have HRP := Lib.hid HB.out.own.sl
      have hL8 : L ≤ 8 := by have := HLL.out; omega
      clear HB hIs hLk i2
      have hno : ¬ (rs.length : Int) < (rs.length : Int) := by omega
      go_wp2
      obtain ⟨wo, rfl⟩ : ∃ wo, wo = wr := ⟨_, rfl⟩
      go_loopw [12, 64] (fun u i wr' => ∃ (k : Nat), k ≤ n ∧ i = .int .i64 (k : Int) ∧ u = .int .i64 (comNL rs a k : Nat) ∧ wr' = wo) (fun _ i _ => n - (intOf i).toNat)
      case atStart => exact ⟨0, Nat.zero_le _, rfl, rfl, rfl⟩
      case round =>
        obtain ⟨k, hk, rfl, rfl, rfl⟩ := hrel
        have hcl : comNL rs a k ≤ k := com_le
        rcases HL1.out with ⟨_, _, _, h2'⟩ | ⟨lb, lf, lc, le, _, _, l4⟩
        · have := congrArg List.length h2'; rw [length_labL] at this; simp at this; omega
        rw [length_labL] at le
        obtain ⟨rfl, rfl⟩ : a1 = some ⟨lb, lf, none⟩ ∧ c1 = lc := by simpa using le
        have e2 := l4 a _ (labL_get (allL rs) ha)
        have HL4 := Lib.hid l4
        clear l4 le
        have j5 : (0 : Int) ≤ (a : Int) := by omega
        have j6 : (a : Int) < (n : Int) := by omega
        by_cases hlt : k < n
        · have e1 := HL4.out k _ (labL_get (allL rs) hlt)
          have j1 : (0 : Int) ≤ (k : Int) := by omega
          have j2 : (k : Int) < (n : Int) := by omega
          have hst : comNL rs a (k + 1) = comNL rs a k + if allL rs k = allL rs a then 1 else 0 := com_step
          by_cases hm : allL rs k = allL rs a
          · rw [if_pos hm] at hst
            rw [hm] at e1
            have HST := Lib.hid hst
            generalize comNL rs a k = C at *
            clear hst hm
            go_wp2
            exact ⟨⟨k + 1, by omega, by go_num, by rw [HST.out]; go_num, (by first | rfl | trivial)⟩, by simp [intOf]; omega⟩
          · rw [if_neg hm] at hst
            have hne : (((allL rs k : Nat) : Int) == ((allL rs a : Nat) : Int)) = false := by simp; omega
            have HST := Lib.hid hst
            generalize allL rs k = Y1 at e1 hne
            generalize allL rs a = Y2 at e2 hne
            generalize comNL rs a k = C at *
            clear hst hm
            go_wp2
            exact ⟨⟨k + 1, by omega, by go_num, by rw [HST.out]; go_num, (by first | rfl | trivial)⟩, by simp [intOf]; omega⟩
        · obtain rfl : k = n := by omega
          clear e2 HL1
          have hno2 : ¬ (k : Int) < (k : Int) := by omega
          obtain ⟨cs0, hcs0, hcz, hmk⟩ := make_ints k (by omega) wr
          have qO := kO.cell
          have lO := kO.lt
          obtain ⟨c, hc⟩ : ∃ c, comNL rs a k = c := ⟨_, rfl⟩
          have hc1 := com_pos (rs := rs) ha
          rw [hc] at hc1 hcl ⊢
          have HCC := Lib.hid hc
          have hG0 : FBlk (wr.alloc (.cells cs0 2)) wr.heap.size k (fun u => sumF ((parP k rs a).gF a b u) 0) := ⟨cs0, Blk.new _ rfl, hcs0, hcz⟩
          have HG0 := Lib.hid hG0
          clear hc hG0 hcz
          go_wp2
          clear hmk
          obtain ⟨P, hP⟩ : ∃ P, parP k rs a = P := ⟨_, rfl⟩
          have HGS := Lib.hid (fun (s : Nat) (hs : s < 256) v w (h : NwV w v ⟨k, partR rs a⟩) => show Calls Tryz.prog 117 #[v, .int .u64 (s : Int)] w fun e w' => ∃ v', e = .returned v' ∧ BldI w' w.heap.size w'.heap.size v' (labL k ((parP k rs a).L s)) ∧ Below w.heap.size w w' from groups_any k (partR rs a) s v w h HOK.out.1 hs)
          have HON := Lib.hid (fun (s : Nat) (hs : s < 2 ^ L) w => show Calls Tryz.prog 118 #[.int .u64 (s : Int)] w fun e w' => e = .returned (.int .i64 ((parP k rs a).cnt s : Nat)) ∧ w = w' from by
            have q := ones_any s (Nat.lt_of_lt_of_le hs (pow_small hL8).2) w
            rw [cnt8 hs hL8] at q
            have e : (parP k rs a).cnt s = cntF (bit s) L := by show cntF (bit s) (partR rs a).length = _; rw [HLL.out]
            rw [e]; exact q)
          have HWB := Lib.hid (fun s => show 1 ≤ (parP k rs a).wt s ∧ (parP k rs a).wt s ≤ 10000000000000000 from by
            have q := Pn.wt_bd (P := parP k rs a) HOK.out.2.1 s
            have := HOK.out.2.2
            exact ⟨q.1, Int.le_trans q.2 this⟩)
          have HTB := Lib.hid (fun q (hq : q ≤ 2 ^ L) => show 0 ≤ sumF (parP k rs a).tF q ∧ sumF (parP k rs a).tF q ≤ 2560000000000000000 from HOK.out.sum (by rw [HLL.out]; exact hq) (fun s => Pn.tF_bd (P := parP k rs a) HOK.out.2.1 s))
          have HGB := Lib.hid (fun u q (hq : q ≤ 2 ^ L) => show 0 ≤ sumF ((parP k rs a).gF a b u) q ∧ sumF ((parP k rs a).gF a b u) q ≤ 2560000000000000000 from HOK.out.sum (by rw [HLL.out]; exact hq) (fun s => Pn.gF_bd (P := parP k rs a) HOK.out.2.1 a b u s))
          have HCL := Lib.hid (fun s => show (parP k rs a).cnt s ≤ 8 from Nat.le_trans (cntF_le _ _) (by show (partR rs a).length ≤ 8; exact hpl))
          have HTI := Lib.hid (fun s => show (parP k rs a).treeB s = true ↔ treN rs a k s + (parP k rs a).cnt s = c ∧ treN rs a k s = 1 from by rw [treeB_iff ha, HCC.out])
          have HTW := Lib.hid (fun u s => show (parP k rs a).twoB a b u s = true ↔ (treN rs a k s + (parP k rs a).cnt s = c ∧ treN rs a k s = 2) ∧ ((parP k rs a).L s a ≠ (parP k rs a).L s b ∧ (parP k rs a).L s u = (parP k rs a).L s a) from by rw [twoB_iff ha, HCC.out])
          have HTR := Lib.hid (fun s => treN_part rs a k s)
          have HTT := Lib.hid (show (parP k rs a).tot = sumF (parP k rs a).tF (2 ^ L) from by show sumF _ (2 ^ (partR rs a).length) = _; rw [HLL.out])
          have HTP := Lib.hid (fun u => show (parP k rs a).top a b u = sumF ((parP k rs a).gF a b u) (2 ^ L) from by show sumF _ (2 ^ (partR rs a).length) = _; rw [HLL.out])
          have HWW := Lib.hid (fun s i x (hx : (partR rs a)[i]? = some x) => show wtF (rnm (partR rs a)) (rdn (partR rs a)) (bit s) (i + 1) = wtF (rnm (partR rs a)) (rdn (partR rs a)) (bit s) i * (if bit s i = true then x.den else x.num) from by simp only [wtF, rnm_at hx, rdn_at hx])
          have HWM := Lib.hid (fun s i (hi : i ≤ L) => show 1 ≤ wtF (rnm (partR rs a)) (rdn (partR rs a)) (bit s) i ∧ wtF (rnm (partR rs a)) (rdn (partR rs a)) (bit s) i ≤ 10000000000000000 from by
            have a1 := wtF_bd (nm := rnm (partR rs a)) (dn := rdn (partR rs a)) (bit s) (k := i) (fun j hj => HOK.out.2.1.pos j (by show j < (partR rs a).length; rw [HLL.out]; omega))
            have b1 := mxF_mono (nm := rnm (partR rs a)) (dn := rdn (partR rs a)) (k := i) (m := (partR rs a).length) HOK.out.2.1.pos (by rw [HLL.out]; exact hi)
            have := HOK.out.2.2
            omega)
          have HWE := Lib.hid (fun s => show wtF (rnm (partR rs a)) (rdn (partR rs a)) (bit s) L = (parP k rs a).wt s from by show _ = wtF (rnm (partR rs a)) (rdn (partR rs a)) (bit s) (partR rs a).length; rw [HLL.out])
          rw [hP] at HG0 HGS HON HWB HTB HGB HCL HTI HTW HTR HTT HTP HWE
          have HPP := Lib.hid hP
          clear hP
          have hpwL := pow_small hL8
          have hUL : ∀ m : Nat, m < 9 → IntKind.u64.wrap (2 ^ m) = ((2 ^ m : Nat) : Int) := by decide +kernel
          have hFL := hUL L (by omega)
          obtain ⟨K, hK⟩ : ∃ K : Nat, 2 ^ L = K := ⟨_, rfl⟩
          rw [hK] at hpwL hFL HON HTB HGB HTT HTP
          have HF0' : Hid (FBlk (wr.alloc (.cells cs0 2)) wr.heap.size k (fun u => sumF (P.gF a b u) 0)) := HG0
          clear hUL hK HG0 qO lO hpw hpw0 hF0
          have lO := kO.lt
          have hbw : Below wr.heap.size wr (wr.alloc (.cells cs0 2)) := (Below.refl _ wr).alloc (Nat.le_refl _) _
          obtain ⟨wm, rfl⟩ : ∃ z, z = wr := ⟨_, rfl⟩
          go_loopw [16, 17] (fun u i wr => ∃ (s : Nat), s ≤ K ∧ i = .int .u64 (s : Int) ∧ u = .int .i64 (sumF P.tF s) ∧ Hid (FBlk wr wm.heap.size k (fun x => sumF (P.gF a b x) s)) ∧ Below wm.heap.size wm wr) (fun _ i _ => K - (intOf i).toNat)
          case atStart => exact ⟨0, Nat.zero_le _, rfl, rfl, HF0', hbw⟩
          case round =>
            clear HF0' hbw
            obtain ⟨s, hs, rfl, rfl, HF, hbr⟩ := hrel
            have kOr := Blk.by hbr kO
            have qO := kOr.cell
            have lOr := kOr.lt
            by_cases hlt : s < K
            · have i1 : (s : Int) < (K : Int) := by omega
              have hs256 : s < 256 := by omega
              have hsum := HTB.out (s + 1) (by omega)
              have hsum0 := HTB.out s (by omega)
              obtain ⟨S0, hS0⟩ : ∃ S0, sumF P.tF s = S0 := ⟨_, rfl⟩
              have hsn : sumF P.tF (s + 1) = S0 + P.tF s := by rw [← hS0]; rfl
              rw [hS0] at hsum0 ⊢
              rw [hsn] at hsum
              have HSN := Lib.hid hsn
              have HNV : Hid (NwV wr (.agg #[.int .i64 (k : Int), .slice au L cu]) ⟨k, partR rs a⟩) := Lib.hid ⟨_, rfl, HRP.out.by hbr⟩
              have hcl := HCL.out s
              have HTIs := Lib.hid (HTI.out s)
              have HTWs := Lib.hid (fun u => HTW.out u s)
              have HTRs := Lib.hid (HTR.out s)
              have HWEs := Lib.hid (HWE.out s)
              have HONs := Lib.hid (fun w => HON.out s hlt w)
              obtain ⟨W, hWe⟩ : ∃ W, P.wt s = W := ⟨_, rfl⟩
              have hw12 := HWB.out s
              rw [hWe] at hw12 HWEs
              have HTY := Lib.hid (fun h => show P.tF s = W from by rw [← hWe]; exact tF_yes h)
              have HGY := Lib.hid (fun u h => show P.gF a b u s = W from by rw [← hWe]; exact gF_yes h)
              have HGZ := Lib.hid (fun u => show sumF (P.gF a b u) (s + 1) = sumF (P.gF a b u) s + P.gF a b u s from rfl)
              have HGN := Lib.hid (fun u (h : ¬ P.twoB a b u s = true) => show P.gF a b u s = 0 from gF_no h)
              have HTN := Lib.hid (fun (h : ¬ P.treeB s = true) => show P.tF s = 0 from tF_no h)
              obtain ⟨C, hC⟩ : ∃ C, P.cnt s = C := ⟨_, rfl⟩
              rw [hC] at hcl HTIs HTWs HONs
              have HTT0 := Lib.hid (show (∀ u, ¬ P.twoB a b u s = true) → FBlk wr wm.heap.size k (fun x => sumF (P.gF a b x) (s + 1)) from fun hn => HF.out.congr (fun u _ => by
                show sumF (P.gF a b u) (s + 1) = sumF (P.gF a b u) s
                rw [HGZ.out, HGN.out u (hn u), Int.add_zero]))
              clear hsn hS0 hWe hC
              by_cases hN : C + 1 ≠ c ∧ C + 2 ≠ c
              · have hb1 : ((C : Int) != (c : Int) - 1) = true := by simp; omega
                have hb2 : ((C : Int) != (c : Int) - 2) = true := by simp; omega
                have et := HTN.out (fun q => by have := HTIs.out.1 q; omega)
                have HFN := Lib.hid (HTT0.out (fun u q => by have := ((HTWs.out u).1 q).1; omega))
                have HET := Lib.hid et
                clear hN et hsum
                go_wp2_with fail
                refine (HONs.out _).mono ?_
                rintro e w' ⟨rfl, rfl⟩
                go_wp2
                exact ⟨⟨s + 1, by omega, by go_num, by rw [HSN.out, HET.out]; go_num, HFN, hbr⟩, by simp [intOf]; omega⟩
              · have hAB : (C + 1 = c) ∨ (C + 2 = c) := by omega
                have HAB := Lib.hid hAB
                clear hN
                rcases hAB with hA | hB
                all_goals
                  first
                    | (have hb1 : ((C : Int) != (c : Int) - 1) = false := by simp; omega
                       have hb3 := Lib.hid hb1)
                    | (have hb1 : ((C : Int) != (c : Int) - 1) = true := by simp; omega
                       have hb2 : ((C : Int) != (c : Int) - 2) = false := by simp; omega)
                  (try clear hA)
                  (try clear hB)
                  go_wp2_with fail
                  refine (HONs.out _).mono ?_
                  rintro e w' ⟨rfl, rfl⟩
                  go_wp2_with fail
                  refine (HGS.out s hs256 _ _ HNV.out).mono ?_
                  rintro e w2 ⟨v2, rfl, hB2, hb2⟩
                  obtain ⟨G, cap2, cs2, hv2, hG2, hBk2, hcell2⟩ := hB2.blk (by rw [length_labL]; omega)
                  rw [length_labL] at hv2
                  subst hv2
                  have HC2 := Lib.hid (fun i (hi : i < k) => show cs2[i]? = some (.int .i64 ((P.L s i : Nat) : Int)) from by rw [← hBk2.cell]; exact hcell2 i _ (labL_get _ hi))
                  have HF2 := Lib.hid (HF.out.by hb2)
                  have hFl := HF.out.lt
                  have hbr2 := below_on hb2 hbr
                  have hGF : wm.heap.size < G := by have := hb2.size; omega
                  have HT2 := Lib.hid (fun hn => (HTT0.out hn).by hb2)
                  clear hB2 hb2 hcell2 hG2 qO lOr kOr HNV HTT0 HF
                  go_wp2
                  go_loopw [20, 106] (fun u i wr2 => ∃ (q : Nat), q ≤ k ∧ i = .int .i64 (q : Int) ∧ u = .int .i64 (cnB (fun v => decide (allL rs v = allL rs a) && decide (P.L s v = v)) q : Nat) ∧ Below w2.heap.size w2 wr2) (fun _ i _ => k - (intOf i).toNat)
                  case atStart => exact ⟨0, Nat.zero_le _, rfl, rfl, Below.refl _ _⟩
                  case round =>
                    obtain ⟨q, hq, rfl, rfl, hbq⟩ := hrel
                    have hcq := cnB_le (fun v => decide (allL rs v = allL rs a) && decide (P.L s v = v)) q
                    by_cases hltq : q < k
                    · have e1 := cell_by' hbq (cell_by' hbr2 (HL4.out q _ (labL_get (allL rs) hltq)))
                      have e2 := cell_by' hbq (cell_by' hbr2 (HL4.out a _ (labL_get (allL rs) ha)))
                      have e3 : wr.cell? ⟨G, q, none⟩ = some (.int .i64 ((P.L s q : Nat) : Int)) := by rw [(Blk.by hbq hBk2).cell]; exact HC2.out q hltq
                      have j1 : (0 : Int) ≤ (q : Int) := by omega
                      have j2 : (q : Int) < (k : Int) := by omega
                      have j3 : (0 : Int) ≤ (a : Int) := by omega
                      have j4 : (a : Int) < (k : Int) := by omega
                      by_cases hm : allL rs q = allL rs a
                      · rw [hm] at e1
                        by_cases hl : P.L s q = q
                        · rw [hl] at e3
                          have HST := Lib.hid (show cnB (fun v => decide (allL rs v = allL rs a) && decide (P.L s v = v)) (q + 1) = cnB (fun v => decide (allL rs v = allL rs a) && decide (P.L s v = v)) q + 1 from cnB_yes (by simp only [hm, hl]; decide))
                          generalize cnB (fun v => decide (allL rs v = allL rs a) && decide (P.L s v = v)) q = D at *
                          clear hm hl
                          go_wp2
                          go_quiet (fail)
                          go_wp2
                          exact ⟨⟨q + 1, by omega, by go_num, by rw [HST.out]; go_num, below_drewN hbq _⟩, by simp [intOf]; omega⟩
                        · have HST := Lib.hid (show cnB (fun v => decide (allL rs v = allL rs a) && decide (P.L s v = v)) (q + 1) = cnB (fun v => decide (allL rs v = allL rs a) && decide (P.L s v = v)) q from cnB_no (by simp only [hm, hl]; decide))
                          have hne : ((q : Int) == ((P.L s q : Nat) : Int)) = false := by simp; omega
                          generalize P.L s q = Y1 at e3 hne
                          generalize cnB (fun v => decide (allL rs v = allL rs a) && decide (P.L s v = v)) q = D at *
                          clear hm hl
                          go_wp2
                          go_quiet (fail)
                          go_wp2
                          exact ⟨⟨q + 1, by omega, by go_num, by rw [HST.out], below_drewN hbq _⟩, by simp [intOf]; omega⟩
                      · have hne : (((allL rs q : Nat) : Int) == ((allL rs a : Nat) : Int)) = false := by simp; omega
                        have HST := Lib.hid (show cnB (fun v => decide (allL rs v = allL rs a) && decide (P.L s v = v)) (q + 1) = cnB (fun v => decide (allL rs v = allL rs a) && decide (P.L s v = v)) q from cnB_no (by simp only [hm]; simp))
                        generalize P.L s q = Y1 at e3
                        generalize cnB (fun v => decide (allL rs v = allL rs a) && decide (P.L s v = v)) q = D at *
                        clear hm
                        go_wp2
                        go_quiet (fail)
                        go_wp2
                        exact ⟨⟨q + 1, by omega, by go_num, by rw [HST.out], below_drewN hbq _⟩, by simp [intOf]; omega⟩
                    · obtain rfl : q = k := by omega
                      have hno3 : ¬ (q : Int) < (q : Int) := by omega
                      obtain ⟨D, hD⟩ : ∃ D, cnB (fun v => decide (allL rs v = allL rs a) && decide (P.L s v = v)) q = D := ⟨_, rfl⟩
                      have hTD := HTRs.out
                      rw [hD] at hTD hcq ⊢
                      have HTI2 := Lib.hid (show P.treeB s = true ↔ D + C = c ∧ D = 1 from by rw [← hTD]; exact HTIs.out)
                      have HTW2 := Lib.hid (fun u => show P.twoB a b u s = true ↔ (D + C = c ∧ D = 2) ∧ (P.L s a ≠ P.L s b ∧ P.L s u = P.L s a) from by rw [← hTD]; exact HTWs.out u)
                      have HF3 := Lib.hid (HF2.out.by hbq)
                      have hBk3 := Blk.by hbq hBk2
                      have HT3 := Lib.hid (fun hn => (HT2.out hn).by hbq)
                      have hbr3 := below_on hbq hbr2
                      clear hD hTD hbq
                      by_cases hc : D + C = c
                      · have hb5 : ((D : Int) != (c : Int) - (C : Int)) = false := by simp; omega
                        have kO3 := Blk.by hbr3 kO
                        have qO := kO3.cell
                        have lO3 := kO3.lt
                        have HCD := Lib.hid hc
                        clear hc
                        go_wp2
                        obtain ⟨wz, rfl⟩ : ∃ z, z = wr := ⟨_, rfl⟩
                        go_loopw [23, 136] (fun u i wr2 => ∃ (t : Nat), t ≤ L ∧ i = .int .i64 (t : Int) ∧ u = .int .i64 (wtF (rnm (partR rs a)) (rdn (partR rs a)) (bit s) t) ∧ Below wz.heap.size wz wr2) (fun _ i _ => L - (intOf i).toNat)
                        case atStart => exact ⟨0, Nat.zero_le _, rfl, rfl, Below.refl _ _⟩
                        case round =>
                          obtain ⟨t, ht, rfl, rfl, hbt⟩ := hrel
                          have hwt := HWM.out s t ht
                          by_cases hltt : t < L
                          · obtain ⟨x, hx⟩ : ∃ x, (partR rs a)[t]? = some x := ⟨_, List.getElem?_eq_getElem (by rw [HLL.out]; exact hltt)⟩
                            rcases HRP.out with ⟨_, _, _, h2'⟩ | ⟨pb, pf, pc, pe, _, _, p4⟩
                            · rw [h2'] at hx; simp at hx
                            rw [HLL.out] at pe
                            obtain ⟨rfl, rfl⟩ : au = some ⟨pb, pf, none⟩ ∧ cu = pc := by simpa using pe
                            obtain ⟨d0, d1, d2, d3⟩ := (((p4 t x hx).by hbr3)).by hbt
                            have hww := HWW.out s t x hx
                            have hwt1 := HWM.out s (t + 1) hltt
                            rw [hww] at hwt1
                            have HW1 := Lib.hid hww
                            have hbv := bit_smallV s hs256 t (by omega)
                            have hw1 : IntKind.u64.wrap (t : Int) = (t : Int) := by simp [IntKind.wrap, IntKind.bits, IntKind.signed]; omega
                            have j1 : (0 : Int) ≤ (t : Int) := by omega
                            have j2 : (t : Int) < (L : Int) := by omega
                            clear hww pe p4 hx
                            generalize wtF (rnm (partR rs a)) (rdn (partR rs a)) (bit s) t = V at *
                            obtain ⟨x1, x2, X, Y⟩ := x
                            dsimp only at *
                            cases hbb : bit s t with
                            | true =>
                              rw [hbb] at hbv HW1 hwt1
                              simp only [if_true] at hwt1
                              have hwr : IntKind.i64.wrap (V * Y) = V * Y := by simp [IntKind.wrap, IntKind.bits, IntKind.signed]; omega
                              clear hbb
                              go_wp2
                              exact ⟨⟨t + 1, by omega, by go_num, by rw [HW1.out]; simp, blwT⟩, by simp [intOf]; omega⟩
                            | false =>
                              rw [hbb] at hbv HW1 hwt1
                              simp only [Bool.false_eq_true, if_false] at hwt1
                              have hwr : IntKind.i64.wrap (V * X) = V * X := by simp [IntKind.wrap, IntKind.bits, IntKind.signed]; omega
                              clear hbb
                              go_wp2
                              exact ⟨⟨t + 1, by omega, by go_num, by rw [HW1.out]; simp, blwT⟩, by simp [intOf]; omega⟩
                          · obtain rfl : t = L := by omega
                            have hno4 : ¬ (t : Int) < (t : Int) := by omega
                            have hwl := HWEs.out
                            rw [hwl] at hwt ⊢
                            have HF4 := Lib.hid (HF3.out.by hbt)
                            have hBk4 := Blk.by hbt hBk3
                            have HT4 := Lib.hid (fun hn => (HT3.out hn).by hbt)
                            have hbr4 := below_on hbt hbr3
                            clear hwl hbt kO3 qO lO3
                            have hab := HAB.out
                            have hcd := HCD.out
                            by_cases hD1 : D = 1
                            · subst hD1
                              have et := HTY.out (HTI2.out.2 ⟨hcd, rfl⟩)
                              have HFN := Lib.hid (HT4.out (fun u h => by have := ((HTW2.out u).1 h).1.2; omega))
                              rw [et] at hsum
                              have HET := Lib.hid et
                              clear et hcd hab
                              go_wp2
                              exact ⟨⟨s + 1, by omega, by go_num, by rw [HSN.out, HET.out], HFN, hbr4⟩, by simp [intOf]; omega⟩
                            · have hD2 : D = 2 := by omega
                              subst hD2
                              have et := HTN.out (fun h => hD1 (HTI2.out.1 h).2)
                              have HET := Lib.hid et
                              have hk0 : decide (0 < q) = true := decide_eq_true (by omega)
                              clear et hcd hab hsum hD1
                              go_wp2
                              obtain ⟨wy, rfl⟩ : ∃ z, z = wr := ⟨_, rfl⟩
                              go_loopw [165] (fun i wr2 => ∃ (u : Nat), u ≤ q ∧ i = .int .i64 (u : Int) ∧ Hid (FBlk wr2 wm.heap.size q (upZ (fun x => sumF (P.gF a b x) (s + 1)) (fun x => sumF (P.gF a b x) s) u)) ∧ Blk wr2 G cs2 2 ∧ Below wm.heap.size wm wr2) (fun i _ => q - (intOf i).toNat)
                              case atStart => exact ⟨0, Nat.zero_le _, rfl, Lib.hid (HF4.out.congr (fun u _ => by unfold upZ; rw [if_neg (by omega)])), hBk4, hbr4⟩
                              case round =>
                                obtain ⟨u, hu, rfl, HF5, hBk5, hbr5⟩ := hrel
                                by_cases hltu : u < q
                                · have k2 : (u : Int) < (q : Int) := by omega
                                  have k3 : (0 : Int) ≤ (u : Int) := by omega
                                  have k4 : (0 : Int) ≤ (a : Int) := by omega
                                  have k5 : (a : Int) < (q : Int) := by omega
                                  have k6 : (0 : Int) ≤ (b : Int) := by omega
                                  have k7 : (b : Int) < (q : Int) := by omega
                                  have hkk : decide (u < q) = true := decide_eq_true hltu
                                  have lu : wr.cell? ⟨G, u, none⟩ = some (.int .i64 ((P.L s u : Nat) : Int)) := by rw [hBk5.cell]; exact HC2.out u hltu
                                  have la : wr.cell? ⟨G, a, none⟩ = some (.int .i64 ((P.L s a : Nat) : Int)) := by rw [hBk5.cell]; exact HC2.out a ha
                                  have lb' : wr.cell? ⟨G, b, none⟩ = some (.int .i64 ((P.L s b : Nat) : Int)) := by rw [hBk5.cell]; exact HC2.out b hb0
                                  have cF := HF5.out.at hltu
                                  have fF := HF5.out.free
                                  have lF := HF5.out.lt
                                  have eU : upZ (fun x => sumF (P.gF a b x) (s + 1)) (fun x => sumF (P.gF a b x) s) u u = sumF (P.gF a b u) s := by unfold upZ; rw [if_neg (by omega)]
                                  rw [eU] at cF
                                  have hg1 := HGB.out u (s + 1) (by omega)
                                  have hg0 := HGB.out u s (by omega)
                                  rw [HGZ.out] at hg1
                                  obtain ⟨S1, hS1⟩ : ∃ S1, sumF (P.gF a b u) s = S1 := ⟨_, rfl⟩
                                  rw [hS1] at cF hg1 hg0
                                  have HS1 := Lib.hid hS1
                                  clear eU hS1
                                  have HNO := Lib.hid (show P.gF a b u s = 0 → FBlk wr wm.heap.size q (upZ (fun x => sumF (P.gF a b x) (s + 1)) (fun x => sumF (P.gF a b x) s) (u + 1)) from fun h0 => HF5.out.congr (fun i hi => by
                                    unfold upZ
                                    by_cases l : i < u
                                    · rw [if_pos (by omega), if_pos l]
                                    · by_cases e : i = u
                                      · subst e; rw [if_pos (by omega), if_neg (by omega)]; show sumF (P.gF a b i) (s + 1) = _; rw [HGZ.out, h0, Int.add_zero]
                                      · rw [if_neg (by omega), if_neg l]))
                                  by_cases hua : P.L s u = P.L s a
                                  · rw [hua] at lu
                                    by_cases hba : P.L s a = P.L s b
                                    · have hne : (((P.L s b : Nat) : Int) != ((P.L s a : Nat) : Int)) = false := by simp; omega
                                      have HFN := Lib.hid (HNO.out (HGN.out u (fun h => ((HTW2.out u).1 h).2.1 hba)))
                                      clear hba hua
                                      go_wp2
                                      go_quiet (fail)
                                      go_wp2
                                      exact ⟨⟨u + 1, by omega, by go_num, Lib.hid (HFN.out.drewN _), hBk5.drewN _, below_drewN hbr5 _⟩, by simp [intOf]; omega⟩
                                    · have hne : (((P.L s b : Nat) : Int) != ((P.L s a : Nat) : Int)) = true := by simp; omega
                                      have eg := HGY.out u ((HTW2.out u).2 ⟨⟨HCD.out, (by first | rfl | trivial)⟩, hba, hua⟩)
                                      rw [eg] at hg1
                                      have HEG := Lib.hid eg
                                      have hws : IntKind.i64.wrap (S1 + W) = S1 + W := by simp [IntKind.wrap, IntKind.bits, IntKind.signed]; omega
                                      have HST2 := Lib.hid (fun z => show FBlk ((wr.drewN z).setCell ⟨wm.heap.size, u, none⟩ (.int .i64 (S1 + W))) wm.heap.size q (upZ (fun x => sumF (P.gF a b x) (s + 1)) (fun x => sumF (P.gF a b x) s) (u + 1)) from FBlk.set (w := wr) HF5.out hltu (by unfold upZ; rw [if_pos (by omega)]; show sumF (P.gF a b u) (s + 1) = _; rw [HGZ.out, HS1.out, HEG.out]) (fun i hi => by
                                        unfold upZ
                                        by_cases l : i < u
                                        · rw [if_pos (by omega), if_pos l]
                                        · rw [if_neg (by omega), if_neg l]))
                                      clear hba hua eg
                                      go_wp2
                                      go_quiet (fail)
                                      go_wp2
                                      exact ⟨⟨u + 1, by omega, by go_num, Lib.hid (HST2.out _), Blk.apart (hBk5.drewN _) _ _ _ (by omega), (below_drewN hbr5 _).setCell (by simp) _⟩, by simp [intOf]; omega⟩
                                  · have hne : (((P.L s u : Nat) : Int) == ((P.L s a : Nat) : Int)) = false := by simp; omega
                                    have HFN := Lib.hid (HNO.out (HGN.out u (fun h => hua ((HTW2.out u).1 h).2.2)))
                                    clear hua
                                    go_wp2
                                    go_quiet (fail)
                                    go_wp2
                                    exact ⟨⟨u + 1, by omega, by go_num, Lib.hid (HFN.out.drewN _), hBk5.drewN _, below_drewN hbr5 _⟩, by simp [intOf]; omega⟩
                                · obtain rfl : u = q := by omega
                                  have k2 : ¬ (u : Int) < (u : Int) := by omega
                                  have HFN := Lib.hid (show FBlk wr wm.heap.size u (fun x => sumF (P.gF a b x) (s + 1)) from HF5.out.congr (fun i hi => by unfold upZ; rw [if_pos hi]))
                                  go_wp2
                                  exact ⟨⟨s + 1, by omega, by go_num, by rw [HSN.out, HET.out]; go_num, HFN, hbr5⟩, by simp [intOf]; omega⟩
                      · have hb5 : ((D : Int) != (c : Int) - (C : Int)) = true := by simp; omega
                        have et := HTN.out (fun h => hc (HTI2.out.1 h).1)
                        have HFN := Lib.hid (HT3.out (fun u h => hc ((HTW2.out u).1 h).1.1))
                        have HET := Lib.hid et
                        clear et hc hsum
                        go_wp2
                        exact ⟨⟨s + 1, by omega, by go_num, by rw [HSN.out, HET.out]; go_num, HFN, hbr3⟩, by simp [intOf]; omega⟩
            · obtain rfl : s = K := by omega
              have i1 : ¬ (s : Int) < (s : Int) := by omega
              have HTE := Lib.hid (show sumF P.tF s = (parP k rs a).tot from by rw [HPP.out, HTT.out])
              have HFE := Lib.hid (show FBlk wr wm.heap.size k ((parP k rs a).top a b) from HF.out.congr (fun u _ => by rw [HPP.out, HTP.out u]))
              have hbf := below_on hbr hb
              have hsz := hb.size
              go_wp2
              exact bodyPost_ret (v := .tuple #[.slice (some ⟨wm.heap.size, 0, none⟩) k k, .int .i64 (sumF P.tF s)]) (by simp [results, Tryz.results92, go_sem]) rfl ⟨_, by rw [HTE.out], HFE.out, hsz, hbf⟩
set_option maxRecDepth 100000 in
set_option maxHeartbeats 4000000 in
theorem implPot_any (x : Nw) (a b : Int) (v : Value) (w : World) (h : NwV w v x) (hok : ∀ r ∈ x.rs, r.ok) (hf : Fits x.nodes) :
    Calls Tryz.prog 49 #[v, .int .i64 a, .int .i64 b] w fun e w' => ∃ v', e = .returned (.tuple #[v', .int .i64 (nkC x a b)]) ∧ OwnRat w' w.heap.size w'.heap.size v' (potS x a b) ∧ Below w.heap.size w w' := by
  have HC := Lib.hid (fun v w h => networkCode_any x a b v w h hok hf)
  have HNV := Lib.hid h
  obtain ⟨a0, c0, rfl⟩ := h.sized
  clear h hok
  by_cases hc : nkC x a b = 0
  · obtain ⟨hv, hiA, hiB, hab⟩ := nk_yes hc
    have HPS := Lib.hid (show potS x a b = (List.range x.nodes.toNat).map fun (v : Nat) => rtOf (nkT x a b v) (nkP x a).tot from by unfold potS; rw [if_pos hc])
    have hT0 : 0 < (nkP x a).tot := by rw [nk_P hc]; exact (nkX hc).T_pos
    have hT1 : (nkP x a).tot ≤ 2560000000000000000 := by rw [nk_P hc]; exact (nkX hc).T_le
    have hS1 : ∀ u, 0 ≤ nkT x a b u ∧ nkT x a b u ≤ 2560000000000000000 := fun u => by rw [nk_T hc]; exact (nkX hc).S_bd u
    obtain ⟨⟨n0, n1⟩, r8, _⟩ := nw_facts hv
    obtain ⟨nodes, rs⟩ := x
    dsimp only at *
    obtain ⟨n, rfl⟩ : ∃ n : Nat, nodes = n := ⟨nodes.toNat, by omega⟩
    obtain ⟨p, rfl⟩ : ∃ p : Nat, a = p := ⟨a.toNat, by omega⟩
    obtain ⟨q, rfl⟩ : ∃ q : Nat, b = q := ⟨b.toNat, by omega⟩
    rw [hc] at HC ⊢
    have HVV := Lib.hid hv
    have HCC := Lib.hid hc
    have HSUM := Lib.hid (fun v w (h : NwV w v ⟨n, rs⟩) => show Calls Tryz.prog 92 #[v, .int .i64 (p : Int), .int .i64 (q : Int)] w fun e w' => ∃ g, e = .returned (.tuple #[.slice (some ⟨g, 0, none⟩) n n, .int .i64 (nkP ⟨n, rs⟩ (p : Int)).tot]) ∧ FBlk w' g n (fun u => nkT ⟨n, rs⟩ (p : Int) (q : Int) u) ∧ w.heap.size ≤ g ∧ Below w.heap.size w w' from solve_any n rs p q v w h (nw_ok (x := ⟨n, rs⟩) HVV.out rfl) (part_ok (x := ⟨n, rs⟩) HVV.out rfl p) (by omega) (by omega))
    have HRD := Lib.hid (fun (u : Nat) w => lowest_any (nkT ⟨n, rs⟩ p q u) (nkP ⟨n, rs⟩ p).tot w (by have := hS1 u; omega) (by have := hS1 u; omega) (by omega) (by omega) (by omega))
    clear hv hc hab hT0 hT1 hS1
    go_enter Tryz.func49, Tryz.ntmps49
    go_wp2_with fail
    refine (HC.out _ _ (HNV.out.by blwT)).mono ?_
    rintro e w1 ⟨rfl, hb1⟩
    have kA : Blk w1 w.heap.size #[.int .i64 (n : Int), .slice a0 rs.length c0] 55 := blkT
    have hW : Below w.heap.size w w1 := blwT
    have qA := kA.cell
    have lA := kA.lt
    clear hb1
    go_wp2_with fail
    refine (HSUM.out _ _ (HNV.out.by hW)).mono ?_
    rintro e w3 ⟨g, rfl, hF3, hge3, hb3⟩
    have hW3 := below_on hb3 hW
    have hsz2 := hW.size
    clear hb3
    obtain ⟨f, hff⟩ : ∃ f : Nat → Int, (fun (u : Nat) => nkT ⟨n, rs⟩ (p : Int) (q : Int) u) = f := ⟨_, rfl⟩
    have HFF := Lib.hid (fun (u : Nat) => congrFun hff u)
    rw [hff] at hF3
    have HRD2 := Lib.hid (fun (u : Nat) w => by have q := HRD.out u w; rw [HFF.out u] at q; exact q)
    obtain ⟨Tt, hTt⟩ : ∃ T, (nkP ⟨n, rs⟩ (p : Int)).tot = T := ⟨_, rfl⟩
    rw [hTt] at HRD2 HPS ⊢
    have HPF := Lib.hid (show potS ⟨n, rs⟩ p q = (List.range n).map fun (u : Nat) => rtOf (f u) Tt from by
      rw [HPS.out, Int.toNat_natCast]
      exact List.map_congr_left (fun u _ => by rw [HFF.out u]))
    have hgl := hF3.lt
    have HF3 := Lib.hid hF3
    clear hff hF3 HRD HFF HPS HC HNV kA qA lA hTt
    obtain ⟨M, hM⟩ : ∃ M, w3.heap.size = M := ⟨_, rfl⟩
    have hM1 := Nat.le_of_eq hM
    have hM2 := Nat.le_of_eq hM.symm
    have HMM := Lib.hid hM
    clear hM
    go_wp2
    rw [HMM.out]
    go_loopw [11, 31] (fun u i wr => ∃ (k hi : Nat), k ≤ n ∧ i = .int .i64 (k : Int) ∧ Hid (BldRat wr M hi u ((List.range k).map fun (z : Nat) => rtOf (f z) Tt)) ∧ M < hi ∧ Below w3.heap.size w3 wr) (fun _ i _ => n - (intOf i).toNat)
    case atStart =>
      refine ⟨0, M + 1, Nat.zero_le _, rfl, Lib.hid ?_, by omega, blwT⟩
      exact BldRat.none (cs := #[]) (Blk.new _ HMM.out.symm) rfl (Nat.le_refl _) (by omega) (by simp; omega)
    case round =>
      obtain ⟨k, hi, hk, rfl, HB, hhi, hb⟩ := hrel
      obtain ⟨au, cu, rfl⟩ := HB.out.sized
      have hlen : ((List.range k).map fun (z : Nat) => rtOf (f z) Tt).length = k := by simp
      have HLEN := Lib.hid hlen
      rw [hlen] at HB
      clear hlen
      have hIs := HB.out.1
      have HX := Lib.hid (show ((List.range (k + 1)).map fun (z : Nat) => rtOf (f z) Tt) = ((List.range k).map fun (z : Nat) => rtOf (f z) Tt) ++ [rtOf (f k) Tt] from by simp [List.range_succ])
      by_cases hlt : k < n
      · have i1 : (k : Int) < (n : Int) := by omega
        have i0 : (0 : Int) ≤ (k : Int) := by omega
        have hF := HF3.out.by hb
        have cF := hF.at hlt
        have lF := hF.lt
        clear hF
        go_wp2_with fail
        refine (HRD2.out k _).mono ?_
        rintro e w4 ⟨rfl, hb4⟩
        have HB4 := Lib.hid (HB.out.by hb4)
        have hb4w := below_on hb4 hb
        have hs4 := hb4.size
        clear hb4 cF lF
        obtain ⟨X, hX⟩ : ∃ X, redN (f k) Tt = X := ⟨_, rfl⟩
        obtain ⟨Y, hY⟩ : ∃ Y, redD (f k) Tt = Y := ⟨_, rfl⟩
        rw [hX, hY]
        have HXY := Lib.hid (show rtOf (f k) Tt = ⟨X, Y⟩ from by unfold rtOf; rw [hX, hY])
        clear hX hY
        obtain ⟨ZS, hZS⟩ : ∃ ZS, ((List.range k).map fun (z : Nat) => rtOf (f z) Tt) = ZS := ⟨_, rfl⟩
        rw [hZS] at HB4 HLEN HX
        clear hZS HB
        go_wp2_with (refine list_pushRat (by rfl) _ _ (by rfl) M hi (.slice au k cu) ZS (by rfl) (HB4.out.by blwT) w4.heap.size ⟨X, Y⟩ (by rfl) (Blk.new _ rfl) (by omega) (by rw [HLEN.out]; omega) ?_; intro a5 c5 w5 hB5 hw5; have HB5 := Lib.hid hB5; rw [HLEN.out]; clear hB5)
        have hsz := hw5.size
        simp only [World.size_alloc] at hsz
        refine ⟨⟨k + 1, w5.heap.size, by omega, by go_num, Lib.hid ?_, by omega, hw5.below (below_al hb4w _) (by omega)⟩, by simp [intOf]; omega⟩
        rw [HX.out, HXY.out]
        have := HB5.out
        rw [HLEN.out] at this
        exact this
      · obtain rfl : k = n := by omega
        have i1 : ¬ (k : Int) < (k : Int) := by omega
        have HO := Lib.hid (show OwnRat wr w.heap.size wr.heap.size (.slice au k cu) (potS ⟨k, rs⟩ p q) from by rw [HPF.out]; exact HB.out.own.wide (by have := hW3.size; omega) hIs)
        have hbe := below_on hb hW3
        clear HB
        go_wp2
        exact bodyPost_ret (v := .tuple #[.slice au k cu, .int .i64 0]) (by simp [results, Tryz.results49, go_sem]) rfl ⟨_, rfl, HO.out, hbe⟩
  · have HPN := Lib.hid (show potS x a b = [] from by unfold potS; rw [if_neg hc])
    obtain ⟨r, hr⟩ : ∃ r, nkC x a b = r := ⟨_, rfl⟩
    rw [hr] at HC hc ⊢
    have hrb : ((r : Int) != 0) = true := by simpa using hc
    clear hr hc
    go_enter Tryz.func49, Tryz.ntmps49
    go_wp2_with fail
    refine (HC.out _ _ (HNV.out.by blwT)).mono ?_
    rintro e w1 ⟨rfl, hb1⟩
    have hW : Below w.heap.size w w1 := blwT
    clear hb1
    go_wp2
    exact bodyPost_ret (v := .tuple #[.slice none 0 0, .int .i64 r]) (by simp [results, Tryz.results49, go_sem]) rfl ⟨_, rfl, .inl ⟨_, _, rfl, HPN.out⟩, hW⟩
theorem pot_at {x : Nw} {a b : Int} (h : nkC x a b = 0) : (potS x a b)[a.toNat]? = some (erS x a b) ∧ (potS x a b).length = x.nodes.toNat := by
  obtain ⟨h1, h2, _⟩ := nk_yes h
  unfold potS erS
  rw [if_pos h, if_pos h]
  have e : ((a.toNat : Nat) : Int) = a := by omega
  refine ⟨?_, by simp⟩
  rw [List.getElem?_map, List.getElem?_range (by omega)]
  simp only [Option.map_some, e]
set_option maxRecDepth 100000 in
set_option maxHeartbeats 4000000 in
theorem implEr_any (x : Nw) (a b : Int) (v : Value) (w : World) (h : NwV w v x) (hok : ∀ r ∈ x.rs, r.ok) (hf : Fits x.nodes) :
    Calls Tryz.prog 22 #[v, .int .i64 a, .int .i64 b] w fun e w' => e = .returned (.tuple #[.agg #[.int .i64 (erS x a b).n, .int .i64 (erS x a b).d], .int .i64 (nkC x a b)]) ∧ Below w.heap.size w w' := by
  have HP := Lib.hid (fun v w h => implPot_any x a b v w h hok hf)
  have HNV := Lib.hid h
  obtain ⟨a0, c0, rfl⟩ := h.sized
  clear h hok
  by_cases hc : nkC x a b = 0
  · obtain ⟨hv, hiA, hiB, hab⟩ := nk_yes hc
    obtain ⟨p1, p2⟩ := pot_at hc
    obtain ⟨p, rfl⟩ : ∃ p : Nat, a = p := ⟨a.toNat, by omega⟩
    rw [Int.toNat_natCast] at p1
    rw [hc] at HP ⊢
    obtain ⟨E, hE⟩ : ∃ E, erS x p b = E := ⟨_, rfl⟩
    rw [hE] at p1 ⊢
    have hlt : p < (potS x p b).length := by rw [p2]; omega
    have hl8 := potS_bd x p b
    generalize potS x p b = ps at *
    have H1 := Lib.hid p1
    obtain ⟨m, hm⟩ : ∃ m, ps.length = m := ⟨_, rfl⟩
    rw [hm] at hlt hl8
    have HM := Lib.hid hm
    obtain ⟨X, Y⟩ := E
    clear hv hc hab p1 p2 hE hm hiA hiB
    go_enter Tryz.func22, Tryz.ntmps22
    go_wp2_with fail
    refine (HP.out _ _ (HNV.out.by blwT)).mono ?_
    rintro e w1 ⟨v1, rfl, hO, hb1⟩
    have kR : Blk w1 (w.heap.size + 1) #[.int .i64 0, .int .i64 0] 31 := blkT
    have hW : Below w.heap.size w w1 := blwT
    rcases hO.sl with ⟨_, _, _, h2⟩ | ⟨bb, off, cap, rfl, h2, h3, h4⟩
    · rw [h2] at HM; have := HM.out; simp at this; omega
    obtain ⟨d0, d1⟩ := h4 p _ H1.out
    dsimp only at d0 d1
    rw [HM.out]
    have hOl : bb ≠ w.heap.size + 1 := by
      rcases hO with ⟨_, _, _, e⟩ | ⟨g, cp, cs, e, q1, _⟩
      · have q := HM.out; rw [e] at q; simp at q; omega
      · have e' : bb = g := by have := congrArg Value.ownBlock e; simpa [Value.ownBlock] using this
        have q := q1.1
        simp only [World.size_alloc] at q
        omega
    have fR := kR.free
    have cR := kR.cell
    have lR := kR.lt
    have j1 : (0 : Int) ≤ (p : Int) := by omega
    have j2 : (p : Int) < (m : Int) := by omega
    clear hb1 hO h4 h2 h3 HP HNV
    go_wp2
    exact bodyPost_ret (v := .tuple #[.agg #[.int .i64 X, .int .i64 Y], .int .i64 0]) (by simp [results, Tryz.results22, go_sem, *]) rfl ⟨rfl, by repeat (first | (with_reducible exact hW) | ((with_reducible refine Below.setCell ?_ ?_ _); rotate_left; focus (simp; try omega)))⟩
  · have hE : erS x a b = ⟨0, 0⟩ := by unfold erS; rw [if_neg hc]
    rw [hE]
    obtain ⟨r, hr⟩ : ∃ r, nkC x a b = r := ⟨_, rfl⟩
    rw [hr] at HP hc ⊢
    have hrb : ((r : Int) != 0) = true := by simpa using hc
    clear hr hc hE
    go_enter Tryz.func22, Tryz.ntmps22
    go_wp2_with fail
    refine (HP.out _ _ (HNV.out.by blwT)).mono ?_
    rintro e w1 ⟨v1, rfl, hO, hb1⟩
    have kR : Blk w1 (w.heap.size + 1) #[.int .i64 0, .int .i64 0] 31 := blkT
    have hW : Below w.heap.size w w1 := blwT
    have fR := kR.free
    have cR := kR.cell
    have lR := kR.lt
    obtain ⟨a1, c1, rfl⟩ := hO.sl.len
    clear hb1 hO
    go_wp2
    exact bodyPost_ret (v := .tuple #[.agg #[.int .i64 0, .int .i64 0], .int .i64 r]) (by simp [results, Tryz.results22, go_sem, *]) rfl ⟨rfl, by repeat (first | (with_reducible exact hW) | ((with_reducible refine Below.setCell ?_ ?_ _); rotate_left; focus (simp; try omega)))⟩
set_option maxRecDepth 100000 in
set_option maxHeartbeats 4000000 in
theorem specEr_any (x : Nw) (a b : Int) (v : Value) (w : World) (h : NwV w v x) (hok : ∀ r ∈ x.rs, r.ok) (hf : Fits x.nodes) :
    Calls Tryz.prog 34 #[v, .int .i64 a, .int .i64 b] w fun e w' => e = .returned (.tuple #[.agg #[.int .i64 (erS x a b).n, .int .i64 (erS x a b).d], .int .i64 (nkC x a b)]) ∧ Below w.heap.size w w' := by
  have HC := Lib.hid (fun v w h => l26Check_any x a b v w h hok hf)
  have HNV := Lib.hid h
  obtain ⟨a0, c0, rfl⟩ := h.sized
  clear h hok
  by_cases hc : nkC x a b = 0
  · obtain ⟨hv, hiA, hiB, hab⟩ := nk_yes hc
    have hE : erS x a b = rtOf (nkT x a b a) (nkP x a).tot := by unfold erS; rw [if_pos hc]
    rw [hE]
    have hT0 : 0 < (nkP x a).tot := by rw [nk_P hc]; exact (nkX hc).T_pos
    have hT1 : (nkP x a).tot ≤ 2560000000000000000 := by rw [nk_P hc]; exact (nkX hc).T_le
    have hS1 : 0 ≤ nkT x a b a ∧ nkT x a b a ≤ 2560000000000000000 := by rw [nk_T hc]; exact (nkX hc).S_bd a
    obtain ⟨⟨n0, n1⟩, r8, _⟩ := nw_facts hv
    obtain ⟨nodes, rs⟩ := x
    dsimp only at *
    obtain ⟨n, rfl⟩ : ∃ n : Nat, nodes = n := ⟨nodes.toNat, by omega⟩
    obtain ⟨p, rfl⟩ : ∃ p : Nat, a = p := ⟨a.toNat, by omega⟩
    obtain ⟨q, rfl⟩ : ∃ q : Nat, b = q := ⟨b.toNat, by omega⟩
    rw [hc] at HC ⊢
    have HVV := Lib.hid hv
    have HPART := Lib.hid (fun v w h => l26Part_any n rs p v w h (nw_ok (x := ⟨n, rs⟩) HVV.out rfl) (by omega))
    have HSUM := Lib.hid (fun v w (h : NwV w v ⟨n, partR rs p⟩) => show Calls Tryz.prog 70 #[v, .int .i64 (p : Int), .int .i64 (q : Int)] w fun e w' => ∃ g, e = .returned (.tuple #[.int .i64 (nkP ⟨n, rs⟩ (p : Int)).tot, .slice (some ⟨g, 0, none⟩) n n]) ∧ FBlk w' g n (fun u => nkT ⟨n, rs⟩ (p : Int) (q : Int) u) ∧ w.heap.size ≤ g ∧ Below w.heap.size w w' from l26Sums_any n (partR rs p) p q v w h (part_ok (x := ⟨n, rs⟩) HVV.out rfl p) (by omega) (by omega))
    have HRD := Lib.hid (fun w => l26Reduce_any (nkT ⟨n, rs⟩ p q p) (nkP ⟨n, rs⟩ p).tot w (by omega) (by omega) (by omega) (by omega) (by omega))
    clear hv hc hab hE
    unfold rtOf
    generalize (nkP ⟨n, rs⟩ (p : Int)).tot = Tt at *
    obtain ⟨f, hff⟩ : ∃ f : Nat → Int, (fun (u : Nat) => nkT ⟨n, rs⟩ (p : Int) (q : Int) u) = f := ⟨_, rfl⟩
    rw [hff] at HSUM
    have e1 : nkT ⟨n, rs⟩ (p : Int) (q : Int) (p : Int) = f p := congrFun hff p
    rw [e1] at HRD hS1 ⊢
    clear e1 hff
    obtain ⟨X, hX⟩ : ∃ X, redN (f p) Tt = X := ⟨_, rfl⟩
    obtain ⟨Y, hY⟩ : ∃ Y, redD (f p) Tt = Y := ⟨_, rfl⟩
    rw [hX, hY] at HRD ⊢
    clear hX hY
    go_enter Tryz.func34, Tryz.ntmps34
    go_wp2_with fail
    refine (HC.out _ _ (HNV.out.by blwT)).mono ?_
    rintro e w1 ⟨rfl, hb1⟩
    have kA : Blk w1 w.heap.size #[.int .i64 (n : Int), .slice a0 rs.length c0] 55 := blkT
    have kR : Blk w1 (w.heap.size + 1) #[.int .i64 0, .int .i64 0] 31 := blkT
    have hW : Below w.heap.size w w1 := blwT
    have qA := kA.cell
    have lA := kA.lt
    clear hb1
    go_wp2_with fail
    refine (HPART.out _ _ (HNV.out.by hW)).mono ?_
    rintro e w2 ⟨v2, rfl, hO2, hb2⟩
    have HO2 := Lib.hid hO2.nw
    have hW2 := below_on hb2 hW
    replace kR := Blk.by hb2 kR
    clear hO2 hb2
    obtain ⟨a2, c2, rfl⟩ := HO2.out.sized
    go_wp2_with fail
    refine (HSUM.out _ _ HO2.out).mono ?_
    rintro e w3 ⟨g, rfl, hF3, hge3, hb3⟩
    have hW3 := below_on hb3 hW2
    replace kR := Blk.by hb3 kR
    have hsz2 := hW2.size
    have cF := hF3.at (show p < n by omega)
    have lF := hF3.lt
    have j1 : (0 : Int) ≤ (p : Int) := by omega
    have j2 : (p : Int) < (n : Int) := by omega
    clear HO2 hb3 hW2 hF3 HSUM HPART HC kA qA lA
    go_wp2_with fail
    refine (HRD.out _).mono ?_
    rintro e w4 ⟨rfl, hb4⟩
    replace kR := Blk.by hb4 kR
    have hW4 := below_on hb4 hW3
    have fR := kR.free
    have cR := kR.cell
    have lR := kR.lt
    clear hb4 cF lF
    go_wp2
    exact bodyPost_ret (v := .tuple #[.agg #[.int .i64 X, .int .i64 Y], .int .i64 0]) (by simp [results, Tryz.results34, go_sem, *]) rfl ⟨rfl, by repeat (first | (with_reducible exact hW4) | ((with_reducible refine Below.setCell ?_ ?_ _); rotate_left; focus (simp; try omega)))⟩
  · have hE : erS x a b = ⟨0, 0⟩ := by unfold erS; rw [if_neg hc]
    rw [hE]
    obtain ⟨r, hr⟩ : ∃ r, nkC x a b = r := ⟨_, rfl⟩
    rw [hr] at HC hc ⊢
    have hrb : ((r : Int) != 0) = true := by simpa using hc
    clear hr hc hE
    go_enter Tryz.func34, Tryz.ntmps34
    go_wp2_with fail
    refine (HC.out _ _ (HNV.out.by blwT)).mono ?_
    rintro e w1 ⟨rfl, hb1⟩
    have kR : Blk w1 (w.heap.size + 1) #[.int .i64 0, .int .i64 0] 31 := blkT
    have hW : Below w.heap.size w w1 := blwT
    have fR := kR.free
    have cR := kR.cell
    have lR := kR.lt
    clear hb1
    go_wp2
    exact bodyPost_ret (v := .tuple #[.agg #[.int .i64 0, .int .i64 0], .int .i64 r]) (by simp [results, Tryz.results34, go_sem, *]) rfl ⟨rfl, by repeat (first | (with_reducible exact hW) | ((with_reducible refine Below.setCell ?_ ?_ _); rotate_left; focus (simp; try omega)))⟩
end Go.Proofs.YtacbdmngcdhgoaaGreat
