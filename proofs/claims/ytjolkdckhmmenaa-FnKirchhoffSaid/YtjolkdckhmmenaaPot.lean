/- NodePotentials: the reference's and the program's. -/
import Derived.Test.YtjolkdckhmmenaaCheck
import Derived.Test.YtjolkdckhmmenaaSolve
namespace Go.Proofs.Ytjolkdckhmmenaa
open Go.RowKit
set_option linter.unusedVariables false
set_option linter.unusedSimpArgs false

set_option maxRecDepth 100000 in
set_option maxHeartbeats 4000000 in
theorem implPot_any (x : Nw) (a b : Int) (v : Value) (w : World) (h : NwV w v x) (hok : ∀ r ∈ x.rs, r.ok) (hf : Fits x.nodes) :
    Calls Try.prog 12 #[v, .int .i64 a, .int .i64 b] w fun e w' => ∃ v', e = .returned (.tuple #[v', .int .i64 (nkC x a b)]) ∧ OwnRat w' w.heap.size w'.heap.size v' (potS x a b) ∧ Below w.heap.size w w' := by
  have HC := Lib.hid (fun v w h => networkCode_any x a b v w h hok hf)
  have HNV := Lib.hid h
  obtain ⟨a0, c0, rfl⟩ := h.sized
  clear h hok
  by_cases hc : nkC x a b = 0
  · obtain ⟨hv, hiA, hiB, hab⟩ := nk_yes hc
    have HPS := Lib.hid (show potS x a b = (List.range x.nodes.toNat).map fun (v : Nat) => rtOf (nkT x a b v) (nkP x a).tot from by unfold potS; rw [if_pos hc])
    have hT0 : 0 < (nkP x a).tot := by rw [nk_P hc]; exact (nkX hc).T_pos
    have hT1 : (nkP x a).tot ≤ 2560000000000000000 := by rw [nk_P hc]; exact (nkX hc).T_le
    have hS1 : ∀ u, 0 ≤ nkT x a b u ∧ nkT x a b u ≤ 2560000000000000000 := fun u => by rw [nk_T hc]; exact (nkX hc).S_bd u
    obtain ⟨⟨n0, n1⟩, r8, _⟩ := nw_facts hv
    obtain ⟨nodes, rs⟩ := x
    dsimp only at *
    obtain ⟨n, rfl⟩ : ∃ n : Nat, nodes = n := ⟨nodes.toNat, by omega⟩
    obtain ⟨p, rfl⟩ : ∃ p : Nat, a = p := ⟨a.toNat, by omega⟩
    obtain ⟨q, rfl⟩ : ∃ q : Nat, b = q := ⟨b.toNat, by omega⟩
    rw [hc] at HC ⊢
    have HVV := Lib.hid hv
    have HCC := Lib.hid hc
    have HSUM := Lib.hid (fun v w (h : NwV w v ⟨n, rs⟩) => show Calls Try.prog 27 #[v, .int .i64 (p : Int), .int .i64 (q : Int)] w fun e w' => ∃ g, e = .returned (.tuple #[.slice (some ⟨g, 0, none⟩) n n, .int .i64 (nkP ⟨n, rs⟩ (p : Int)).tot]) ∧ FBlk w' g n (fun u => nkT ⟨n, rs⟩ (p : Int) (q : Int) u) ∧ w.heap.size ≤ g ∧ Below w.heap.size w w' from solve_any n rs p q v w h (nw_ok (x := ⟨n, rs⟩) HVV.out rfl) (part_ok (x := ⟨n, rs⟩) HVV.out rfl p) (by omega) (by omega))
    have HRD := Lib.hid (fun (u : Nat) w => lowest_any (nkT ⟨n, rs⟩ p q u) (nkP ⟨n, rs⟩ p).tot w (by have := hS1 u; omega) (by have := hS1 u; omega) (by omega) (by omega) (by omega))
    clear hv hc hab hT0 hT1 hS1
    go_enter Try.func12, Try.ntmps12
    go_wp2_with fail
    refine (HC.out _ _ (HNV.out.by (by ((repeat (first | (with_reducible exact Below.refl _ _) | (with_reducible refine below_drewN ?_ _) | (with_reducible refine Below.drew ?_) | (with_reducible refine below_al ?_ _) | (with_reducible refine below_on (by assumption) ?_) | ((with_reducible refine Below.setCell ?_ ?_ _); rotate_left; focus (first | omega | (simp; done) | (simp; omega))) | (with_reducible assumption))); done)))).mono ?_
    rintro e w1 ⟨rfl, hb1⟩
    have kA : Blk w1 w.heap.size #[.int .i64 (n : Int), .slice a0 rs.length c0] 26 := (by ((repeat (first | (with_reducible assumption) | (with_reducible refine Blk.drewN ?_ _) | (with_reducible refine Blk.drew ?_) | ((with_reducible refine Blk.new _ ?_); focus (first | omega | (simp; done) | (simp; omega))) | (with_reducible refine Blk.past ?_ _) | ((with_reducible refine Blk.apart ?_ _ _ _ ?_); rotate_left; focus (first | omega | (simp; done) | (simp; omega))) | (with_reducible refine Blk.by (by assumption) ?_))); done))
    have hW : Below w.heap.size w w1 := (by ((repeat (first | (with_reducible exact Below.refl _ _) | (with_reducible refine below_drewN ?_ _) | (with_reducible refine Below.drew ?_) | (with_reducible refine below_al ?_ _) | (with_reducible refine below_on (by assumption) ?_) | ((with_reducible refine Below.setCell ?_ ?_ _); rotate_left; focus (first | omega | (simp; done) | (simp; omega))) | (with_reducible assumption))); done))
    have qA := kA.cell
    have lA := kA.lt
    clear hb1
    go_wp2_with fail
    refine (HSUM.out _ _ (HNV.out.by hW)).mono ?_
    rintro e w3 ⟨g, rfl, hF3, hge3, hb3⟩
    have hW3 := below_on hb3 hW
    have hsz2 := hW.size
    clear hb3
    obtain ⟨f, hff⟩ : ∃ f : Nat → Int, (fun (u : Nat) => nkT ⟨n, rs⟩ (p : Int) (q : Int) u) = f := ⟨_, rfl⟩
    have HFF := Lib.hid (fun (u : Nat) => congrFun hff u)
    rw [hff] at hF3
    have HRD2 := Lib.hid (fun (u : Nat) w => by have q := HRD.out u w; rw [HFF.out u] at q; exact q)
    obtain ⟨Tt, hTt⟩ : ∃ T, (nkP ⟨n, rs⟩ (p : Int)).tot = T := ⟨_, rfl⟩
    rw [hTt] at HRD2 HPS ⊢
    have HPF := Lib.hid (show potS ⟨n, rs⟩ p q = (List.range n).map fun (u : Nat) => rtOf (f u) Tt from by
      rw [HPS.out, Int.toNat_natCast]
      exact List.map_congr_left (fun u _ => by rw [HFF.out u]))
    have hgl := hF3.lt
    have HF3 := Lib.hid hF3
    clear hff hF3 HRD HFF HPS HC HNV kA qA lA hTt
    obtain ⟨M, hM⟩ : ∃ M, w3.heap.size = M := ⟨_, rfl⟩
    have hM1 := Nat.le_of_eq hM
    have hM2 := Nat.le_of_eq hM.symm
    have HMM := Lib.hid hM
    clear hM
    go_wp2
    rw [HMM.out]
    go_loopw [11, 31] (fun u i wr => ∃ (k hi : Nat), k ≤ n ∧ i = .int .i64 (k : Int) ∧ Hid (BldRat wr M hi u ((List.range k).map fun (z : Nat) => rtOf (f z) Tt)) ∧ M < hi ∧ Below w3.heap.size w3 wr) (fun _ i _ => n - (intOf i).toNat)
    case atStart =>
      refine ⟨0, M + 1, Nat.zero_le _, rfl, Lib.hid ?_, by omega, (by ((repeat (first | (with_reducible exact Below.refl _ _) | (with_reducible refine below_drewN ?_ _) | (with_reducible refine Below.drew ?_) | (with_reducible refine below_al ?_ _) | (with_reducible refine below_on (by assumption) ?_) | ((with_reducible refine Below.setCell ?_ ?_ _); rotate_left; focus (first | omega | (simp; done) | (simp; omega))) | (with_reducible assumption))); done))⟩
      exact BldRat.none (cs := #[]) (Blk.new _ HMM.out.symm) rfl (Nat.le_refl _) (by omega) (by simp; omega)
    case round =>
      obtain ⟨k, hi, hk, rfl, HB, hhi, hb⟩ := hrel
      obtain ⟨au, cu, rfl⟩ := HB.out.sized
      have hlen : ((List.range k).map fun (z : Nat) => rtOf (f z) Tt).length = k := by simp
      have HLEN := Lib.hid hlen
      rw [hlen] at HB
      clear hlen
      have hIs := HB.out.1
      have HX := Lib.hid (show ((List.range (k + 1)).map fun (z : Nat) => rtOf (f z) Tt) = ((List.range k).map fun (z : Nat) => rtOf (f z) Tt) ++ [rtOf (f k) Tt] from by simp [List.range_succ])
      by_cases hlt : k < n
      · have i1 : (k : Int) < (n : Int) := by omega
        have i0 : (0 : Int) ≤ (k : Int) := by omega
        have hF := HF3.out.by hb
        have cF := hF.at hlt
        have lF := hF.lt
        clear hF
        go_wp2_with fail
        refine (HRD2.out k _).mono ?_
        rintro e w4 ⟨rfl, hb4⟩
        have HB4 := Lib.hid (HB.out.by hb4)
        have hb4w := below_on hb4 hb
        have hs4 := hb4.size
        clear hb4 cF lF
        obtain ⟨X, hX⟩ : ∃ X, redN (f k) Tt = X := ⟨_, rfl⟩
        obtain ⟨Y, hY⟩ : ∃ Y, redD (f k) Tt = Y := ⟨_, rfl⟩
        rw [hX, hY]
        have HXY := Lib.hid (show rtOf (f k) Tt = ⟨X, Y⟩ from by unfold rtOf; rw [hX, hY])
        clear hX hY
        obtain ⟨ZS, hZS⟩ : ∃ ZS, ((List.range k).map fun (z : Nat) => rtOf (f z) Tt) = ZS := ⟨_, rfl⟩
        rw [hZS] at HB4 HLEN HX
        clear hZS HB
        go_wp2_with (refine list_pushRat (by rfl) _ _ (by rfl) M hi (.slice au k cu) ZS (by rfl) (HB4.out.by (by ((repeat (first | (with_reducible exact Below.refl _ _) | (with_reducible refine below_drewN ?_ _) | (with_reducible refine Below.drew ?_) | (with_reducible refine below_al ?_ _) | (with_reducible refine below_on (by assumption) ?_) | ((with_reducible refine Below.setCell ?_ ?_ _); rotate_left; focus (first | omega | (simp; done) | (simp; omega))) | (with_reducible assumption))); done))) w4.heap.size ⟨X, Y⟩ (by rfl) (Blk.new _ rfl) (by omega) (by rw [HLEN.out]; omega) ?_; intro a5 c5 w5 hB5 hw5; have HB5 := Lib.hid hB5; rw [HLEN.out]; clear hB5)
        have hsz := hw5.size
        simp only [World.size_alloc] at hsz
        refine ⟨⟨k + 1, w5.heap.size, by omega, by go_num, Lib.hid ?_, by omega, hw5.below (below_al hb4w _) (by omega)⟩, by simp [intOf]; omega⟩
        rw [HX.out, HXY.out]
        have := HB5.out
        rw [HLEN.out] at this
        exact this
      · obtain rfl : k = n := by omega
        have i1 : ¬ (k : Int) < (k : Int) := by omega
        have HO := Lib.hid (show OwnRat wr w.heap.size wr.heap.size (.slice au k cu) (potS ⟨k, rs⟩ p q) from by rw [HPF.out]; exact HB.out.own.wide (by have := hW3.size; omega) hIs)
        have hbe := below_on hb hW3
        clear HB
        go_wp2
        exact bodyPost_ret (v := .tuple #[.slice au k cu, .int .i64 0]) (by simp [results, Try.results12, go_sem]) rfl ⟨_, rfl, HO.out, hbe⟩
  · have HPN := Lib.hid (show potS x a b = [] from by unfold potS; rw [if_neg hc])
    obtain ⟨r, hr⟩ : ∃ r, nkC x a b = r := ⟨_, rfl⟩
    rw [hr] at HC hc ⊢
    have hrb : ((r : Int) != 0) = true := by simpa using hc
    clear hr hc
    go_enter Try.func12, Try.ntmps12
    go_wp2_with fail
    refine (HC.out _ _ (HNV.out.by (by ((repeat (first | (with_reducible exact Below.refl _ _) | (with_reducible refine below_drewN ?_ _) | (with_reducible refine Below.drew ?_) | (with_reducible refine below_al ?_ _) | (with_reducible refine below_on (by assumption) ?_) | ((with_reducible refine Below.setCell ?_ ?_ _); rotate_left; focus (first | omega | (simp; done) | (simp; omega))) | (with_reducible assumption))); done)))).mono ?_
    rintro e w1 ⟨rfl, hb1⟩
    have hW : Below w.heap.size w w1 := (by ((repeat (first | (with_reducible exact Below.refl _ _) | (with_reducible refine below_drewN ?_ _) | (with_reducible refine Below.drew ?_) | (with_reducible refine below_al ?_ _) | (with_reducible refine below_on (by assumption) ?_) | ((with_reducible refine Below.setCell ?_ ?_ _); rotate_left; focus (first | omega | (simp; done) | (simp; omega))) | (with_reducible assumption))); done))
    clear hb1
    go_wp2
    exact bodyPost_ret (v := .tuple #[.slice none 0 0, .int .i64 r]) (by simp [results, Try.results12, go_sem]) rfl ⟨_, rfl, .inl ⟨_, _, rfl, HPN.out⟩, hW⟩
end Go.Proofs.Ytjolkdckhmmenaa
