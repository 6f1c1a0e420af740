/- InitialColoring: the program's and the reference's. -/
import Derived.Test.YtpaiiaajbojmnaaGreatInis
import Derived.Test.YtpaiiaajbojmnaaGreatSpecNl
import Derived.Test.YtpaiiaajbojmnaaGreatImplNl
import Derived.Test.YtpaiiaajbojmnaaGreatIsoP
namespace Go.Proofs.YtpaiiaajbojmnaaGreat
open Go.RowKit
set_option linter.unusedVariables false
set_option linter.unusedSimpArgs false

theorem iniR_bounds (x : Nl) : (iniR x).1.length ≤ 1048576 ∧ (iniR x).2.length ≤ 1048576 := by
  unfold iniR
  split
  · rename_i hb
    obtain ⟨⟨h0, h1⟩, hd, _⟩ := nlB_facts hb
    simp only [iniS, length_rankS, length_netL, length_devL]
    omega
  · simp


set_option maxRecDepth 100000 in
set_option maxHeartbeats 1000000 in
theorem specInitialColoring_any (x : Nl) (v : Value) (w : World) (h : NlV w v x) (hok : ∀ p ∈ x.ps, p.ok) (hnn : Fits x.nets) :
    Calls Tryz.prog 47 #[v] w fun e w' => ∃ v', e = .returned (.tuple #[v', .bool (nlB x)]) ∧ OwnPr w' w.heap.size w'.heap.size v' (iniR x) ∧ Below w.heap.size w w' := by
  have HV := Lib.hid (fun v w h => specNl_any x v w h hok hnn)
  have HN := Lib.hid h
  obtain ⟨Y, hY⟩ : ∃ Y, iniR x = Y := ⟨_, rfl⟩
  rw [hY]
  unfold iniR at hY
  obtain ⟨a, c, a', c', rfl⟩ := h.sized
  cases hb : nlB x with
  | false =>
    rw [hb] at HV hY
    have HY := Lib.hid (show ([], []) = Y by simpa using hY)
    clear h hok hnn hb hY
    go_enter Tryz.func47, Tryz.ntmps47
    go_wp2_with fail
    refine (HV.out _ _ (HN.out.by (by ((repeat (first | (with_reducible exact Below.refl _ _) | (with_reducible refine below_drewN ?_ _) | (with_reducible refine Below.drew ?_) | (with_reducible refine below_al ?_ _) | (with_reducible refine below_on (by assumption) ?_) | ((with_reducible refine Below.setCell ?_ ?_ _); rotate_left; focus (first | omega | (simp; done) | (simp; omega))) | (with_reducible assumption))); done)))).mono ?_
    rintro e w1 ⟨rfl, hb1⟩
    have kR : Blk w1 (w.heap.size + 1) #[.slice none 0 0, .slice none 0 0] 30 := (by ((repeat (first | (with_reducible assumption) | (with_reducible refine Blk.drewN ?_ _) | (with_reducible refine Blk.drew ?_) | ((with_reducible refine Blk.new _ ?_); focus (first | omega | (simp; done) | (simp; omega))) | (with_reducible refine Blk.past ?_ _) | ((with_reducible refine Blk.apart ?_ _ _ _ ?_); rotate_left; focus (first | omega | (simp; done) | (simp; omega))) | (with_reducible refine Blk.by (by assumption) ?_))); done))
    have hW : Below w.heap.size w w1 := (by ((repeat (first | (with_reducible exact Below.refl _ _) | (with_reducible refine below_drewN ?_ _) | (with_reducible refine Below.drew ?_) | (with_reducible refine below_al ?_ _) | (with_reducible refine below_on (by assumption) ?_) | ((with_reducible refine Below.setCell ?_ ?_ _); rotate_left; focus (first | omega | (simp; done) | (simp; omega))) | (with_reducible assumption))); done))
    have qR := kR.cell
    have fR := kR.free
    have lR := kR.lt
    clear hb1
    go_wp2
    refine bodyPost_ret (v := .tuple #[.agg #[.slice none 0 0, .slice none 0 0], .bool false]) (by simp [results, Tryz.results47, go_sem, *]) rfl ⟨_, rfl, ?_, (by ((repeat (first | (with_reducible exact Below.refl _ _) | (with_reducible refine below_drewN ?_ _) | (with_reducible refine Below.drew ?_) | (with_reducible refine below_al ?_ _) | (with_reducible refine below_on (by assumption) ?_) | ((with_reducible refine Below.setCell ?_ ?_ _); rotate_left; focus (first | omega | (simp; done) | (simp; omega))) | (with_reducible assumption))); done))⟩
    rw [← HY.out]
    exact ⟨_, _, w.heap.size, w.heap.size, w.heap.size, w.heap.size, rfl, .inl ⟨_, _, rfl, rfl⟩, .inl ⟨_, _, rfl, rfl⟩, by (refine ⟨?_, ?_⟩ <;> simp; try omega), by (refine ⟨?_, ?_⟩ <;> simp; try omega), .inl (Nat.le_refl _)⟩
  | true =>
    obtain ⟨⟨hn0, hn1⟩, hd24, hp8, hdv, _⟩ := nlB_facts hb
    have hnet := nl_netsI hb
    obtain ⟨m, hm⟩ : ∃ m : Nat, x.nets = m := ⟨x.nets.toNat, by omega⟩
    have HI := Lib.hid (fun v w h => specIni_any x v m w h hm (by omega) hd24 hp8)
    rw [hb] at HV hY
    have HY := Lib.hid (show iniS x = Y by simpa using hY)
    clear h hok hnn hb hY hm hn0 hn1 hd24 hp8 hdv hnet
    go_enter Tryz.func47, Tryz.ntmps47
    go_wp2_with fail
    refine (HV.out _ _ (HN.out.by (by ((repeat (first | (with_reducible exact Below.refl _ _) | (with_reducible refine below_drewN ?_ _) | (with_reducible refine Below.drew ?_) | (with_reducible refine below_al ?_ _) | (with_reducible refine below_on (by assumption) ?_) | ((with_reducible refine Below.setCell ?_ ?_ _); rotate_left; focus (first | omega | (simp; done) | (simp; omega))) | (with_reducible assumption))); done)))).mono ?_
    rintro e w1 ⟨rfl, hb1⟩
    have kA : Blk w1 w.heap.size #[.int .i64 x.nets, .slice a x.ds.length c, .slice a' x.ps.length c'] 27 := (by ((repeat (first | (with_reducible assumption) | (with_reducible refine Blk.drewN ?_ _) | (with_reducible refine Blk.drew ?_) | ((with_reducible refine Blk.new _ ?_); focus (first | omega | (simp; done) | (simp; omega))) | (with_reducible refine Blk.past ?_ _) | ((with_reducible refine Blk.apart ?_ _ _ _ ?_); rotate_left; focus (first | omega | (simp; done) | (simp; omega))) | (with_reducible refine Blk.by (by assumption) ?_))); done))
    have kR : Blk w1 (w.heap.size + 1) #[.slice none 0 0, .slice none 0 0] 30 := (by ((repeat (first | (with_reducible assumption) | (with_reducible refine Blk.drewN ?_ _) | (with_reducible refine Blk.drew ?_) | ((with_reducible refine Blk.new _ ?_); focus (first | omega | (simp; done) | (simp; omega))) | (with_reducible refine Blk.past ?_ _) | ((with_reducible refine Blk.apart ?_ _ _ _ ?_); rotate_left; focus (first | omega | (simp; done) | (simp; omega))) | (with_reducible refine Blk.by (by assumption) ?_))); done))
    have hW : Below w.heap.size w w1 := (by ((repeat (first | (with_reducible exact Below.refl _ _) | (with_reducible refine below_drewN ?_ _) | (with_reducible refine Below.drew ?_) | (with_reducible refine below_al ?_ _) | (with_reducible refine below_on (by assumption) ?_) | ((with_reducible refine Below.setCell ?_ ?_ _); rotate_left; focus (first | omega | (simp; done) | (simp; omega))) | (with_reducible assumption))); done))
    have qA := kA.cell
    clear hb1
    go_wp2_with fail
    refine (HI.out _ _ (HN.out.by hW)).mono ?_
    rintro e w2 ⟨v2, rfl, hO, hb2⟩
    rw [HY.out] at hO
    obtain ⟨s1, s2, l1, h1, l2, h2, rfl, hO1, hO2, q1, q2, q3⟩ := hO
    have lR1 := kR.lt
    replace kR := Blk.by hb2 kR
    replace hW := below_on hb2 hW
    obtain ⟨a1, c1, rfl⟩ := hO1.sl.len
    obtain ⟨a2, c2, rfl⟩ := hO2.sl.len
    have HO1 := Lib.hid hO1
    have HO2 := Lib.hid hO2
    have qR := kR.cell
    have fR := kR.free
    have lR := kR.lt
    clear hb2 qA hO1 hO2
    obtain ⟨n1, hn1⟩ : ∃ n, Y.1.length = n := ⟨_, rfl⟩
    obtain ⟨n2, hn2⟩ : ∃ n, Y.2.length = n := ⟨_, rfl⟩
    have HN1 := Lib.hid hn1
    have HN2 := Lib.hid hn2
    rw [hn1] at HO1 ⊢
    rw [hn2] at HO2 ⊢
    clear hn1 hn2
    go_wp2
    refine bodyPost_ret (v := .tuple #[.agg #[.slice a1 n1 c1, .slice a2 n2 c2], .bool true]) (by simp [results, Tryz.results47, go_sem, *]) rfl ⟨_, rfl, ⟨_, _, l1, h1, l2, h2, rfl, ?_, ?_, ⟨by omega, by simp; omega⟩, ⟨by omega, by simp; omega⟩, q3⟩, (by ((repeat (first | (with_reducible exact Below.refl _ _) | (with_reducible refine below_drewN ?_ _) | (with_reducible refine Below.drew ?_) | (with_reducible refine below_al ?_ _) | (with_reducible refine below_on (by assumption) ?_) | ((with_reducible refine Below.setCell ?_ ?_ _); rotate_left; focus (first | omega | (simp; done) | (simp; omega))) | (with_reducible assumption))); done))⟩
    · exact OwnR.past (Within.off _) (OwnR.past (Within.off _) HO1.out (by omega)) (by omega)
    · exact OwnR.past (Within.off _) (OwnR.past (Within.off _) HO2.out (by omega)) (by omega)


end Go.Proofs.YtpaiiaajbojmnaaGreat
