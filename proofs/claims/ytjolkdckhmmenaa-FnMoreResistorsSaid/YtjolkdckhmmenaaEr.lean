/- EffectiveResistance: the reference's and the program's. -/
import Derived.Test.YtjolkdckhmmenaaPot
namespace Go.Proofs.Ytjolkdckhmmenaa
open Go.RowKit
set_option linter.unusedVariables false
set_option linter.unusedSimpArgs false

theorem pot_at {x : Nw} {a b : Int} (h : nkC x a b = 0) : (potS x a b)[a.toNat]? = some (erS x a b) ∧ (potS x a b).length = x.nodes.toNat := by
  obtain ⟨h1, h2, _⟩ := nk_yes h
  unfold potS erS
  rw [if_pos h, if_pos h]
  have e : ((a.toNat : Nat) : Int) = a := by omega
  refine ⟨?_, by simp⟩
  rw [List.getElem?_map, List.getElem?_range (by omega)]
  simp only [Option.map_some, e]
set_option maxRecDepth 100000 in
set_option maxHeartbeats 4000000 in
theorem implEr_any (x : Nw) (a b : Int) (v : Value) (w : World) (h : NwV w v x) (hok : ∀ r ∈ x.rs, r.ok) (hf : Fits x.nodes) :
    Calls Try.prog 8 #[v, .int .i64 a, .int .i64 b] w fun e w' => e = .returned (.tuple #[.agg #[.int .i64 (erS x a b).n, .int .i64 (erS x a b).d], .int .i64 (nkC x a b)]) ∧ Below w.heap.size w w' := by
  have HP := Lib.hid (fun v w h => implPot_any x a b v w h hok hf)
  have HNV := Lib.hid h
  obtain ⟨a0, c0, rfl⟩ := h.sized
  clear h hok
  by_cases hc : nkC x a b = 0
  · obtain ⟨hv, hiA, hiB, hab⟩ := nk_yes hc
    obtain ⟨p1, p2⟩ := pot_at hc
    obtain ⟨p, rfl⟩ : ∃ p : Nat, a = p := ⟨a.toNat, by omega⟩
    rw [Int.toNat_natCast] at p1
    rw [hc] at HP ⊢
    obtain ⟨E, hE⟩ : ∃ E, erS x p b = E := ⟨_, rfl⟩
    rw [hE] at p1 ⊢
    have hlt : p < (potS x p b).length := by rw [p2]; omega
    have hl8 := potS_bd x p b
    generalize potS x p b = ps at *
    have H1 := Lib.hid p1
    obtain ⟨m, hm⟩ : ∃ m, ps.length = m := ⟨_, rfl⟩
    rw [hm] at hlt hl8
    have HM := Lib.hid hm
    obtain ⟨X, Y⟩ := E
    clear hv hc hab p1 p2 hE hm hiA hiB
    go_enter Try.func8, Try.ntmps8
    go_wp2_with fail
    refine (HP.out _ _ (HNV.out.by (by ((repeat (first | (with_reducible exact Below.refl _ _) | (with_reducible refine below_drewN ?_ _) | (with_reducible refine Below.drew ?_) | (with_reducible refine below_al ?_ _) | (with_reducible refine below_on (by assumption) ?_) | ((with_reducible refine Below.setCell ?_ ?_ _); rotate_left; focus (first | omega | (simp; done) | (simp; omega))) | (with_reducible assumption))); done)))).mono ?_
    rintro e w1 ⟨v1, rfl, hO, hb1⟩
    have kR : Blk w1 (w.heap.size + 1) #[.int .i64 0, .int .i64 0] 30 := (by ((repeat (first | (with_reducible assumption) | (with_reducible refine Blk.drewN ?_ _) | (with_reducible refine Blk.drew ?_) | ((with_reducible refine Blk.new _ ?_); focus (first | omega | (simp; done) | (simp; omega))) | (with_reducible refine Blk.past ?_ _) | ((with_reducible refine Blk.apart ?_ _ _ _ ?_); rotate_left; focus (first | omega | (simp; done) | (simp; omega))) | (with_reducible refine Blk.by (by assumption) ?_))); done))
    have hW : Below w.heap.size w w1 := (by ((repeat (first | (with_reducible exact Below.refl _ _) | (with_reducible refine below_drewN ?_ _) | (with_reducible refine Below.drew ?_) | (with_reducible refine below_al ?_ _) | (with_reducible refine below_on (by assumption) ?_) | ((with_reducible refine Below.setCell ?_ ?_ _); rotate_left; focus (first | omega | (simp; done) | (simp; omega))) | (with_reducible assumption))); done))
    rcases hO.sl with ⟨_, _, _, h2⟩ | ⟨bb, off, cap, rfl, h2, h3, h4⟩
    · rw [h2] at HM; have := HM.out; simp at this; omega
    obtain ⟨d0, d1⟩ := h4 p _ H1.out
    dsimp only at d0 d1
    rw [HM.out]
    have hOl : bb ≠ w.heap.size + 1 := by
      rcases hO with ⟨_, _, _, e⟩ | ⟨g, cp, cs, e, q1, _⟩
      · have q := HM.out; rw [e] at q; simp at q; omega
      · have e' : bb = g := by have := congrArg Value.ownBlock e; simpa [Value.ownBlock] using this
        have q := q1.1
        simp only [World.size_alloc] at q
        omega
    have fR := kR.free
    have cR := kR.cell
    have lR := kR.lt
    have j1 : (0 : Int) ≤ (p : Int) := by omega
    have j2 : (p : Int) < (m : Int) := by omega
    clear hb1 hO h4 h2 h3 HP HNV
    go_wp2
    exact bodyPost_ret (v := .tuple #[.agg #[.int .i64 X, .int .i64 Y], .int .i64 0]) (by simp [results, Try.results8, go_sem, *]) rfl ⟨rfl, by repeat (first | (with_reducible exact hW) | ((with_reducible refine Below.setCell ?_ ?_ _); rotate_left; focus (simp; try omega)))⟩
  · have hE : erS x a b = ⟨0, 0⟩ := by unfold erS; rw [if_neg hc]
    rw [hE]
    obtain ⟨r, hr⟩ : ∃ r, nkC x a b = r := ⟨_, rfl⟩
    rw [hr] at HP hc ⊢
    have hrb : ((r : Int) != 0) = true := by simpa using hc
    clear hr hc hE
    go_enter Try.func8, Try.ntmps8
    go_wp2_with fail
    refine (HP.out _ _ (HNV.out.by (by ((repeat (first | (with_reducible exact Below.refl _ _) | (with_reducible refine below_drewN ?_ _) | (with_reducible refine Below.drew ?_) | (with_reducible refine below_al ?_ _) | (with_reducible refine below_on (by assumption) ?_) | ((with_reducible refine Below.setCell ?_ ?_ _); rotate_left; focus (first | omega | (simp; done) | (simp; omega))) | (with_reducible assumption))); done)))).mono ?_
    rintro e w1 ⟨v1, rfl, hO, hb1⟩
    have kR : Blk w1 (w.heap.size + 1) #[.int .i64 0, .int .i64 0] 30 := (by ((repeat (first | (with_reducible assumption) | (with_reducible refine Blk.drewN ?_ _) | (with_reducible refine Blk.drew ?_) | ((with_reducible refine Blk.new _ ?_); focus (first | omega | (simp; done) | (simp; omega))) | (with_reducible refine Blk.past ?_ _) | ((with_reducible refine Blk.apart ?_ _ _ _ ?_); rotate_left; focus (first | omega | (simp; done) | (simp; omega))) | (with_reducible refine Blk.by (by assumption) ?_))); done))
    have hW : Below w.heap.size w w1 := (by ((repeat (first | (with_reducible exact Below.refl _ _) | (with_reducible refine below_drewN ?_ _) | (with_reducible refine Below.drew ?_) | (with_reducible refine below_al ?_ _) | (with_reducible refine below_on (by assumption) ?_) | ((with_reducible refine Below.setCell ?_ ?_ _); rotate_left; focus (first | omega | (simp; done) | (simp; omega))) | (with_reducible assumption))); done))
    have fR := kR.free
    have cR := kR.cell
    have lR := kR.lt
    obtain ⟨a1, c1, rfl⟩ := hO.sl.len
    clear hb1 hO
    go_wp2
    exact bodyPost_ret (v := .tuple #[.agg #[.int .i64 0, .int .i64 0], .int .i64 r]) (by simp [results, Try.results8, go_sem, *]) rfl ⟨rfl, by repeat (first | (with_reducible exact hW) | ((with_reducible refine Below.setCell ?_ ?_ _); rotate_left; focus (simp; try omega)))⟩

set_option maxRecDepth 100000 in
set_option maxHeartbeats 4000000 in
theorem specEr_any (x : Nw) (a b : Int) (v : Value) (w : World) (h : NwV w v x) (hok : ∀ r ∈ x.rs, r.ok) (hf : Fits x.nodes) :
    Calls Try.prog 16 #[v, .int .i64 a, .int .i64 b] w fun e w' => e = .returned (.tuple #[.agg #[.int .i64 (erS x a b).n, .int .i64 (erS x a b).d], .int .i64 (nkC x a b)]) ∧ Below w.heap.size w w' := by
  have HC := Lib.hid (fun v w h => l26Check_any x a b v w h hok hf)
  have HNV := Lib.hid h
  obtain ⟨a0, c0, rfl⟩ := h.sized
  clear h hok
  by_cases hc : nkC x a b = 0
  · obtain ⟨hv, hiA, hiB, hab⟩ := nk_yes hc
    have hE : erS x a b = rtOf (nkT x a b a) (nkP x a).tot := by unfold erS; rw [if_pos hc]
    rw [hE]
    have hT0 : 0 < (nkP x a).tot := by rw [nk_P hc]; exact (nkX hc).T_pos
    have hT1 : (nkP x a).tot ≤ 2560000000000000000 := by rw [nk_P hc]; exact (nkX hc).T_le
    have hS1 : 0 ≤ nkT x a b a ∧ nkT x a b a ≤ 2560000000000000000 := by rw [nk_T hc]; exact (nkX hc).S_bd a
    obtain ⟨⟨n0, n1⟩, r8, _⟩ := nw_facts hv
    obtain ⟨nodes, rs⟩ := x
    dsimp only at *
    obtain ⟨n, rfl⟩ : ∃ n : Nat, nodes = n := ⟨nodes.toNat, by omega⟩
    obtain ⟨p, rfl⟩ : ∃ p : Nat, a = p := ⟨a.toNat, by omega⟩
    obtain ⟨q, rfl⟩ : ∃ q : Nat, b = q := ⟨b.toNat, by omega⟩
    rw [hc] at HC ⊢
    have HVV := Lib.hid hv
    have HPART := Lib.hid (fun v w h => l26Part_any n rs p v w h (nw_ok (x := ⟨n, rs⟩) HVV.out rfl) (by omega))
    have HSUM := Lib.hid (fun v w (h : NwV w v ⟨n, partR rs p⟩) => show Calls Try.prog 30 #[v, .int .i64 (p : Int), .int .i64 (q : Int)] w fun e w' => ∃ g, e = .returned (.tuple #[.int .i64 (nkP ⟨n, rs⟩ (p : Int)).tot, .slice (some ⟨g, 0, none⟩) n n]) ∧ FBlk w' g n (fun u => nkT ⟨n, rs⟩ (p : Int) (q : Int) u) ∧ w.heap.size ≤ g ∧ Below w.heap.size w w' from l26Sums_any n (partR rs p) p q v w h (part_ok (x := ⟨n, rs⟩) HVV.out rfl p) (by omega) (by omega))
    have HRD := Lib.hid (fun w => l26Reduce_any (nkT ⟨n, rs⟩ p q p) (nkP ⟨n, rs⟩ p).tot w (by omega) (by omega) (by omega) (by omega) (by omega))
    clear hv hc hab hE
    unfold rtOf
    generalize (nkP ⟨n, rs⟩ (p : Int)).tot = Tt at *
    obtain ⟨f, hff⟩ : ∃ f : Nat → Int, (fun (u : Nat) => nkT ⟨n, rs⟩ (p : Int) (q : Int) u) = f := ⟨_, rfl⟩
    rw [hff] at HSUM
    have e1 : nkT ⟨n, rs⟩ (p : Int) (q : Int) (p : Int) = f p := congrFun hff p
    rw [e1] at HRD hS1 ⊢
    clear e1 hff
    obtain ⟨X, hX⟩ : ∃ X, redN (f p) Tt = X := ⟨_, rfl⟩
    obtain ⟨Y, hY⟩ : ∃ Y, redD (f p) Tt = Y := ⟨_, rfl⟩
    rw [hX, hY] at HRD ⊢
    clear hX hY
    go_enter Try.func16, Try.ntmps16
    go_wp2_with fail
    refine (HC.out _ _ (HNV.out.by (by ((repeat (first | (with_reducible exact Below.refl _ _) | (with_reducible refine below_drewN ?_ _) | (with_reducible refine Below.drew ?_) | (with_reducible refine below_al ?_ _) | (with_reducible refine below_on (by assumption) ?_) | ((with_reducible refine Below.setCell ?_ ?_ _); rotate_left; focus (first | omega | (simp; done) | (simp; omega))) | (with_reducible assumption))); done)))).mono ?_
    rintro e w1 ⟨rfl, hb1⟩
    have kA : Blk w1 w.heap.size #[.int .i64 (n : Int), .slice a0 rs.length c0] 26 := (by ((repeat (first | (with_reducible assumption) | (with_reducible refine Blk.drewN ?_ _) | (with_reducible refine Blk.drew ?_) | ((with_reducible refine Blk.new _ ?_); focus (first | omega | (simp; done) | (simp; omega))) | (with_reducible refine Blk.past ?_ _) | ((with_reducible refine Blk.apart ?_ _ _ _ ?_); rotate_left; focus (first | omega | (simp; done) | (simp; omega))) | (with_reducible refine Blk.by (by assumption) ?_))); done))
    have kR : Blk w1 (w.heap.size + 1) #[.int .i64 0, .int .i64 0] 30 := (by ((repeat (first | (with_reducible assumption) | (with_reducible refine Blk.drewN ?_ _) | (with_reducible refine Blk.drew ?_) | ((with_reducible refine Blk.new _ ?_); focus (first | omega | (simp; done) | (simp; omega))) | (with_reducible refine Blk.past ?_ _) | ((with_reducible refine Blk.apart ?_ _ _ _ ?_); rotate_left; focus (first | omega | (simp; done) | (simp; omega))) | (with_reducible refine Blk.by (by assumption) ?_))); done))
    have hW : Below w.heap.size w w1 := (by ((repeat (first | (with_reducible exact Below.refl _ _) | (with_reducible refine below_drewN ?_ _) | (with_reducible refine Below.drew ?_) | (with_reducible refine below_al ?_ _) | (with_reducible refine below_on (by assumption) ?_) | ((with_reducible refine Below.setCell ?_ ?_ _); rotate_left; focus (first | omega | (simp; done) | (simp; omega))) | (with_reducible assumption))); done))
    have qA := kA.cell
    have lA := kA.lt
    clear hb1
    go_wp2_with fail
    refine (HPART.out _ _ (HNV.out.by hW)).mono ?_
    rintro e w2 ⟨v2, rfl, hO2, hb2⟩
    have HO2 := Lib.hid hO2.nw
    have hW2 := below_on hb2 hW
    replace kR := Blk.by hb2 kR
    clear hO2 hb2
    obtain ⟨a2, c2, rfl⟩ := HO2.out.sized
    go_wp2_with fail
    refine (HSUM.out _ _ HO2.out).mono ?_
    rintro e w3 ⟨g, rfl, hF3, hge3, hb3⟩
    have hW3 := below_on hb3 hW2
    replace kR := Blk.by hb3 kR
    have hsz2 := hW2.size
    have cF := hF3.at (show p < n by omega)
    have lF := hF3.lt
    have j1 : (0 : Int) ≤ (p : Int) := by omega
    have j2 : (p : Int) < (n : Int) := by omega
    clear HO2 hb3 hW2 hF3 HSUM HPART HC kA qA lA
    go_wp2_with fail
    refine (HRD.out _).mono ?_
    rintro e w4 ⟨rfl, hb4⟩
    replace kR := Blk.by hb4 kR
    have hW4 := below_on hb4 hW3
    have fR := kR.free
    have cR := kR.cell
    have lR := kR.lt
    clear hb4 cF lF
    go_wp2
    exact bodyPost_ret (v := .tuple #[.agg #[.int .i64 X, .int .i64 Y], .int .i64 0]) (by simp [results, Try.results16, go_sem, *]) rfl ⟨rfl, by repeat (first | (with_reducible exact hW4) | ((with_reducible refine Below.setCell ?_ ?_ _); rotate_left; focus (simp; try omega)))⟩
  · have hE : erS x a b = ⟨0, 0⟩ := by unfold erS; rw [if_neg hc]
    rw [hE]
    obtain ⟨r, hr⟩ : ∃ r, nkC x a b = r := ⟨_, rfl⟩
    rw [hr] at HC hc ⊢
    have hrb : ((r : Int) != 0) = true := by simpa using hc
    clear hr hc hE
    go_enter Try.func16, Try.ntmps16
    go_wp2_with fail
    refine (HC.out _ _ (HNV.out.by (by ((repeat (first | (with_reducible exact Below.refl _ _) | (with_reducible refine below_drewN ?_ _) | (with_reducible refine Below.drew ?_) | (with_reducible refine below_al ?_ _) | (with_reducible refine below_on (by assumption) ?_) | ((with_reducible refine Below.setCell ?_ ?_ _); rotate_left; focus (first | omega | (simp; done) | (simp; omega))) | (with_reducible assumption))); done)))).mono ?_
    rintro e w1 ⟨rfl, hb1⟩
    have kR : Blk w1 (w.heap.size + 1) #[.int .i64 0, .int .i64 0] 30 := (by ((repeat (first | (with_reducible assumption) | (with_reducible refine Blk.drewN ?_ _) | (with_reducible refine Blk.drew ?_) | ((with_reducible refine Blk.new _ ?_); focus (first | omega | (simp; done) | (simp; omega))) | (with_reducible refine Blk.past ?_ _) | ((with_reducible refine Blk.apart ?_ _ _ _ ?_); rotate_left; focus (first | omega | (simp; done) | (simp; omega))) | (with_reducible refine Blk.by (by assumption) ?_))); done))
    have hW : Below w.heap.size w w1 := (by ((repeat (first | (with_reducible exact Below.refl _ _) | (with_reducible refine below_drewN ?_ _) | (with_reducible refine Below.drew ?_) | (with_reducible refine below_al ?_ _) | (with_reducible refine below_on (by assumption) ?_) | ((with_reducible refine Below.setCell ?_ ?_ _); rotate_left; focus (first | omega | (simp; done) | (simp; omega))) | (with_reducible assumption))); done))
    have fR := kR.free
    have cR := kR.cell
    have lR := kR.lt
    clear hb1
    go_wp2
    exact bodyPost_ret (v := .tuple #[.agg #[.int .i64 0, .int .i64 0], .int .i64 r]) (by simp [results, Try.results16, go_sem, *]) rfl ⟨rfl, by repeat (first | (with_reducible exact hW) | ((with_reducible refine Below.setCell ?_ ?_ _); rotate_left; focus (simp; try omega)))⟩
end Go.Proofs.Ytjolkdckhmmenaa
