/- IsIsomorphism, the program's. -/
import Derived.Test.YtaiadcfgmichpaaMoved
import Derived.Test.YtaiadcfgmichpaaIsoP
import Derived.Test.YtaiadcfgmichpaaOrd
import Derived.Test.YtaiadcfgmichpaaImplNl
import Derived.Test.YtaiadcfgmichpaaPairMatching
import Derived.Test.YtaiadcfgmichpaaParB
import Derived.BigRegion
import Derived.BigQuiet
import Derived.Deep.RegionHeld3
namespace Go.Proofs.Ytaiadcfgmichpaa
open Go.RowKit
set_option linter.unusedVariables false
set_option linter.unusedSimpArgs false

set_option maxRecDepth 100000 in
set_option maxHeartbeats 4000000 in
theorem implIso_any (x y : Nl) (m : List Int × List Int) (v u t : Value) (w : World) (h : NlV w v x) (h' : NlV w u y) (hm : MaV w t m) (hok : ∀ p ∈ x.ps, p.ok) (hok' : ∀ p ∈ y.ps, p.ok) (hnn : Fits x.nets) (hnn' : Fits y.nets) (hl : m.1.length ≤ 1048576) (hl' : m.2.length ≤ 1048576) :
    Calls Try.prog 36 #[v, u, t] w fun e w' => e = .returned (.bool (isoB x y m)) ∧ Below w.heap.size w w' := by
  have HVa := Lib.hid (fun v w h => implNl_any x v w h hok hnn)
  have HVb := Lib.hid (fun v w h => implNl_any y v w h hok' hnn')
  have HNa := Lib.hid h
  have HNb := Lib.hid h'
  obtain ⟨s1, s2, rfl, hm1, hm2⟩ := hm
  obtain ⟨names, zs⟩ := m
  dsimp only at hm1 hm2 hl hl'
  have HS := Lib.hid hm1
  have HZ := Lib.hid hm2
  obtain ⟨R, hR⟩ : ∃ r, isoB x y (names, zs) = r := ⟨_, rfl⟩
  rw [hR]
  obtain ⟨a1, c1, a2, c2, rfl⟩ := h.sized
  obtain ⟨b1, d1, b2, d2, rfl⟩ := h'.sized
  obtain ⟨am, cm, rfl⟩ := hm1.len
  obtain ⟨an, cn, rfl⟩ := hm2.len
  obtain ⟨nets, ds, ps⟩ := x
  obtain ⟨nets', ds', ps'⟩ := y
  dsimp only at *
  cases hva : nlB ⟨nets, ds, ps⟩ with
  | false =>
    rw [hva] at HVa
    have HR := Lib.hid (show R = false by rw [← hR]; simp [isoB, hva])
    clear h h' hm1 hm2 hok hok' hnn hnn' hR hva
    go_enter Try.func36, Try.ntmps36
    go_wp2_with fail
    refine (HVa.out _ _ (HNa.out.by (by ((repeat (first | (with_reducible exact Below.refl _ _) | (with_reducible refine below_drewN ?_ _) | (with_reducible refine Below.drew ?_) | (with_reducible refine below_al ?_ _) | (with_reducible refine below_on (by assumption) ?_) | ((with_reducible refine Below.setCell ?_ ?_ _); rotate_left; focus (first | omega | (simp; done) | (simp; omega))) | (with_reducible assumption))); done)))).mono ?_
    rintro e w1 ⟨rfl, hb1⟩
    have kA : Blk w1 w.heap.size #[.int .i64 nets, .slice a1 ds.length c1, .slice a2 ps.length c2] 35 := (by ((repeat (first | (with_reducible assumption) | (with_reducible refine Blk.drewN ?_ _) | (with_reducible refine Blk.drew ?_) | ((with_reducible refine Blk.new _ ?_); focus (first | omega | (simp; done) | (simp; omega))) | (with_reducible refine Blk.past ?_ _) | ((with_reducible refine Blk.apart ?_ _ _ _ ?_); rotate_left; focus (first | omega | (simp; done) | (simp; omega))) | (with_reducible refine Blk.by (by assumption) ?_))); done))
    have kB : Blk w1 (w.heap.size + 1) #[.int .i64 nets', .slice b1 ds'.length d1, .slice b2 ps'.length d2] 35 := (by ((repeat (first | (with_reducible assumption) | (with_reducible refine Blk.drewN ?_ _) | (with_reducible refine Blk.drew ?_) | ((with_reducible refine Blk.new _ ?_); focus (first | omega | (simp; done) | (simp; omega))) | (with_reducible refine Blk.past ?_ _) | ((with_reducible refine Blk.apart ?_ _ _ _ ?_); rotate_left; focus (first | omega | (simp; done) | (simp; omega))) | (with_reducible refine Blk.by (by assumption) ?_))); done))
    have kM : Blk w1 (w.heap.size + 1 + 1) #[.slice am names.length cm, .slice an zs.length cn] 54 := (by ((repeat (first | (with_reducible assumption) | (with_reducible refine Blk.drewN ?_ _) | (with_reducible refine Blk.drew ?_) | ((with_reducible refine Blk.new _ ?_); focus (first | omega | (simp; done) | (simp; omega))) | (with_reducible refine Blk.past ?_ _) | ((with_reducible refine Blk.apart ?_ _ _ _ ?_); rotate_left; focus (first | omega | (simp; done) | (simp; omega))) | (with_reducible refine Blk.by (by assumption) ?_))); done))
    have hW : Below w.heap.size w w1 := (by ((repeat (first | (with_reducible exact Below.refl _ _) | (with_reducible refine below_drewN ?_ _) | (with_reducible refine Below.drew ?_) | (with_reducible refine below_al ?_ _) | (with_reducible refine below_on (by assumption) ?_) | ((with_reducible refine Below.setCell ?_ ?_ _); rotate_left; focus (first | omega | (simp; done) | (simp; omega))) | (with_reducible assumption))); done))
    have qA := kA.cell
    have qB := kB.cell
    have qM := kM.cell
    clear hb1
    go_wp2
    go_ret
    exact ⟨ret_bool HR.out.symm, (by ((repeat (first | (with_reducible exact Below.refl _ _) | (with_reducible refine below_drewN ?_ _) | (with_reducible refine Below.drew ?_) | (with_reducible refine below_al ?_ _) | (with_reducible refine below_on (by assumption) ?_) | ((with_reducible refine Below.setCell ?_ ?_ _); rotate_left; focus (first | omega | (simp; done) | (simp; omega))) | (with_reducible assumption))); done))⟩
  | true =>
    rw [hva] at HVa
    obtain ⟨⟨hn0, hn1⟩, hd24, hp8, hdv, _⟩ := nlB_facts hva
    have hnet := nl_netsI hva
    dsimp only at hn0 hn1 hd24 hp8 hdv hnet
    obtain ⟨n, rfl⟩ : ∃ n : Nat, nets = n := ⟨nets.toNat, by omega⟩
    cases hvb : nlB ⟨nets', ds', ps'⟩ with
    | false =>
      rw [hvb] at HVb
      have HR := Lib.hid (show R = false by rw [← hR]; simp [isoB, hvb])
      clear h h' hm1 hm2 hok hok' hnn hnn' hR hva hvb hdv hnet
      go_enter Try.func36, Try.ntmps36
      go_wp2_with fail
      refine (HVa.out _ _ (HNa.out.by (by ((repeat (first | (with_reducible exact Below.refl _ _) | (with_reducible refine below_drewN ?_ _) | (with_reducible refine Below.drew ?_) | (with_reducible refine below_al ?_ _) | (with_reducible refine below_on (by assumption) ?_) | ((with_reducible refine Below.setCell ?_ ?_ _); rotate_left; focus (first | omega | (simp; done) | (simp; omega))) | (with_reducible assumption))); done)))).mono ?_
      rintro e w1 ⟨rfl, hb1⟩
      have kA : Blk w1 w.heap.size #[.int .i64 (n : Int), .slice a1 ds.length c1, .slice a2 ps.length c2] 35 := (by ((repeat (first | (with_reducible assumption) | (with_reducible refine Blk.drewN ?_ _) | (with_reducible refine Blk.drew ?_) | ((with_reducible refine Blk.new _ ?_); focus (first | omega | (simp; done) | (simp; omega))) | (with_reducible refine Blk.past ?_ _) | ((with_reducible refine Blk.apart ?_ _ _ _ ?_); rotate_left; focus (first | omega | (simp; done) | (simp; omega))) | (with_reducible refine Blk.by (by assumption) ?_))); done))
      have kB : Blk w1 (w.heap.size + 1) #[.int .i64 nets', .slice b1 ds'.length d1, .slice b2 ps'.length d2] 35 := (by ((repeat (first | (with_reducible assumption) | (with_reducible refine Blk.drewN ?_ _) | (with_reducible refine Blk.drew ?_) | ((with_reducible refine Blk.new _ ?_); focus (first | omega | (simp; done) | (simp; omega))) | (with_reducible refine Blk.past ?_ _) | ((with_reducible refine Blk.apart ?_ _ _ _ ?_); rotate_left; focus (first | omega | (simp; done) | (simp; omega))) | (with_reducible refine Blk.by (by assumption) ?_))); done))
      have kM : Blk w1 (w.heap.size + 1 + 1) #[.slice am names.length cm, .slice an zs.length cn] 54 := (by ((repeat (first | (with_reducible assumption) | (with_reducible refine Blk.drewN ?_ _) | (with_reducible refine Blk.drew ?_) | ((with_reducible refine Blk.new _ ?_); focus (first | omega | (simp; done) | (simp; omega))) | (with_reducible refine Blk.past ?_ _) | ((with_reducible refine Blk.apart ?_ _ _ _ ?_); rotate_left; focus (first | omega | (simp; done) | (simp; omega))) | (with_reducible refine Blk.by (by assumption) ?_))); done))
      have hW : Below w.heap.size w w1 := (by ((repeat (first | (with_reducible exact Below.refl _ _) | (with_reducible refine below_drewN ?_ _) | (with_reducible refine Below.drew ?_) | (with_reducible refine below_al ?_ _) | (with_reducible refine below_on (by assumption) ?_) | ((with_reducible refine Below.setCell ?_ ?_ _); rotate_left; focus (first | omega | (simp; done) | (simp; omega))) | (with_reducible assumption))); done))
      have qA := kA.cell
      have qB := kB.cell
      have qM := kM.cell
      clear hb1
      go_wp2_with fail
      refine (HVb.out _ _ (HNb.out.by hW)).mono ?_
      rintro e w2 ⟨rfl, hb2⟩
      replace kA := Blk.by hb2 kA
      replace kB := Blk.by hb2 kB
      replace kM := Blk.by hb2 kM
      replace hW := below_on hb2 hW
      clear hb2 qA qB qM
      have qA := kA.cell
      have qB := kB.cell
      have qM := kM.cell
      go_wp2
      go_ret
      exact ⟨ret_bool HR.out.symm, (by ((repeat (first | (with_reducible exact Below.refl _ _) | (with_reducible refine below_drewN ?_ _) | (with_reducible refine Below.drew ?_) | (with_reducible refine below_al ?_ _) | (with_reducible refine below_on (by assumption) ?_) | ((with_reducible refine Below.setCell ?_ ?_ _); rotate_left; focus (first | omega | (simp; done) | (simp; omega))) | (with_reducible assumption))); done))⟩
    | true =>
      rw [hvb] at HVb
      obtain ⟨_, hd24', hp8', hdv', _⟩ := nlB_facts hvb
      dsimp only at hd24' hp8' hdv'
      by_cases hnq : ¬ (n : Int) = nets'
      · have e1 : ((n : Int) != nets') = true := by simpa using hnq
        have HR := Lib.hid (show R = false by rw [← hR]; simp [isoB, hnq])
        clear h h' hm1 hm2 hok hok' hnn hnn' hR hva hvb hdv hnet hdv' hnq
        go_enter Try.func36, Try.ntmps36
        go_wp2_with fail
        refine (HVa.out _ _ (HNa.out.by (by ((repeat (first | (with_reducible exact Below.refl _ _) | (with_reducible refine below_drewN ?_ _) | (with_reducible refine Below.drew ?_) | (with_reducible refine below_al ?_ _) | (with_reducible refine below_on (by assumption) ?_) | ((with_reducible refine Below.setCell ?_ ?_ _); rotate_left; focus (first | omega | (simp; done) | (simp; omega))) | (with_reducible assumption))); done)))).mono ?_
        rintro e w1 ⟨rfl, hb1⟩
        have kA : Blk w1 w.heap.size #[.int .i64 (n : Int), .slice a1 ds.length c1, .slice a2 ps.length c2] 35 := (by ((repeat (first | (with_reducible assumption) | (with_reducible refine Blk.drewN ?_ _) | (with_reducible refine Blk.drew ?_) | ((with_reducible refine Blk.new _ ?_); focus (first | omega | (simp; done) | (simp; omega))) | (with_reducible refine Blk.past ?_ _) | ((with_reducible refine Blk.apart ?_ _ _ _ ?_); rotate_left; focus (first | omega | (simp; done) | (simp; omega))) | (with_reducible refine Blk.by (by assumption) ?_))); done))
        have kB : Blk w1 (w.heap.size + 1) #[.int .i64 nets', .slice b1 ds'.length d1, .slice b2 ps'.length d2] 35 := (by ((repeat (first | (with_reducible assumption) | (with_reducible refine Blk.drewN ?_ _) | (with_reducible refine Blk.drew ?_) | ((with_reducible refine Blk.new _ ?_); focus (first | omega | (simp; done) | (simp; omega))) | (with_reducible refine Blk.past ?_ _) | ((with_reducible refine Blk.apart ?_ _ _ _ ?_); rotate_left; focus (first | omega | (simp; done) | (simp; omega))) | (with_reducible refine Blk.by (by assumption) ?_))); done))
        have kM : Blk w1 (w.heap.size + 1 + 1) #[.slice am names.length cm, .slice an zs.length cn] 54 := (by ((repeat (first | (with_reducible assumption) | (with_reducible refine Blk.drewN ?_ _) | (with_reducible refine Blk.drew ?_) | ((with_reducible refine Blk.new _ ?_); focus (first | omega | (simp; done) | (simp; omega))) | (with_reducible refine Blk.past ?_ _) | ((with_reducible refine Blk.apart ?_ _ _ _ ?_); rotate_left; focus (first | omega | (simp; done) | (simp; omega))) | (with_reducible refine Blk.by (by assumption) ?_))); done))
        have hW : Below w.heap.size w w1 := (by ((repeat (first | (with_reducible exact Below.refl _ _) | (with_reducible refine below_drewN ?_ _) | (with_reducible refine Below.drew ?_) | (with_reducible refine below_al ?_ _) | (with_reducible refine below_on (by assumption) ?_) | ((with_reducible refine Below.setCell ?_ ?_ _); rotate_left; focus (first | omega | (simp; done) | (simp; omega))) | (with_reducible assumption))); done))
        have qA := kA.cell
        have qB := kB.cell
        have qM := kM.cell
        clear hb1
        go_wp2_with fail
        refine (HVb.out _ _ (HNb.out.by hW)).mono ?_
        rintro e w2 ⟨rfl, hb2⟩
        replace kA := Blk.by hb2 kA
        replace kB := Blk.by hb2 kB
        replace kM := Blk.by hb2 kM
        replace hW := below_on hb2 hW
        clear hb2 qA qB qM
        have qA := kA.cell
        have qB := kB.cell
        have qM := kM.cell
        go_wp2
        go_ret
        exact ⟨ret_bool HR.out.symm, (by ((repeat (first | (with_reducible exact Below.refl _ _) | (with_reducible refine below_drewN ?_ _) | (with_reducible refine Below.drew ?_) | (with_reducible refine below_al ?_ _) | (with_reducible refine below_on (by assumption) ?_) | ((with_reducible refine Below.setCell ?_ ?_ _); rotate_left; focus (first | omega | (simp; done) | (simp; omega))) | (with_reducible assumption))); done))⟩
      replace hnq := Decidable.not_not.1 hnq
      subst hnq
      by_cases hdq : ¬ ds.length = ds'.length
      · have e2 : ((ds.length : Int) != (ds'.length : Int)) = true := by simp; omega
        have HR := Lib.hid (show R = false by rw [← hR]; simp [isoB, hdq])
        clear h h' hm1 hm2 hok hok' hnn hnn' hR hva hvb hdv hnet hdv' hdq
        go_enter Try.func36, Try.ntmps36
        go_wp2_with fail
        refine (HVa.out _ _ (HNa.out.by (by ((repeat (first | (with_reducible exact Below.refl _ _) | (with_reducible refine below_drewN ?_ _) | (with_reducible refine Below.drew ?_) | (with_reducible refine below_al ?_ _) | (with_reducible refine below_on (by assumption) ?_) | ((with_reducible refine Below.setCell ?_ ?_ _); rotate_left; focus (first | omega | (simp; done) | (simp; omega))) | (with_reducible assumption))); done)))).mono ?_
        rintro e w1 ⟨rfl, hb1⟩
        have kA : Blk w1 w.heap.size #[.int .i64 (n : Int), .slice a1 ds.length c1, .slice a2 ps.length c2] 35 := (by ((repeat (first | (with_reducible assumption) | (with_reducible refine Blk.drewN ?_ _) | (with_reducible refine Blk.drew ?_) | ((with_reducible refine Blk.new _ ?_); focus (first | omega | (simp; done) | (simp; omega))) | (with_reducible refine Blk.past ?_ _) | ((with_reducible refine Blk.apart ?_ _ _ _ ?_); rotate_left; focus (first | omega | (simp; done) | (simp; omega))) | (with_reducible refine Blk.by (by assumption) ?_))); done))
        have kB : Blk w1 (w.heap.size + 1) #[.int .i64 (n : Int), .slice b1 ds'.length d1, .slice b2 ps'.length d2] 35 := (by ((repeat (first | (with_reducible assumption) | (with_reducible refine Blk.drewN ?_ _) | (with_reducible refine Blk.drew ?_) | ((with_reducible refine Blk.new _ ?_); focus (first | omega | (simp; done) | (simp; omega))) | (with_reducible refine Blk.past ?_ _) | ((with_reducible refine Blk.apart ?_ _ _ _ ?_); rotate_left; focus (first | omega | (simp; done) | (simp; omega))) | (with_reducible refine Blk.by (by assumption) ?_))); done))
        have kM : Blk w1 (w.heap.size + 1 + 1) #[.slice am names.length cm, .slice an zs.length cn] 54 := (by ((repeat (first | (with_reducible assumption) | (with_reducible refine Blk.drewN ?_ _) | (with_reducible refine Blk.drew ?_) | ((with_reducible refine Blk.new _ ?_); focus (first | omega | (simp; done) | (simp; omega))) | (with_reducible refine Blk.past ?_ _) | ((with_reducible refine Blk.apart ?_ _ _ _ ?_); rotate_left; focus (first | omega | (simp; done) | (simp; omega))) | (with_reducible refine Blk.by (by assumption) ?_))); done))
        have hW : Below w.heap.size w w1 := (by ((repeat (first | (with_reducible exact Below.refl _ _) | (with_reducible refine below_drewN ?_ _) | (with_reducible refine Below.drew ?_) | (with_reducible refine below_al ?_ _) | (with_reducible refine below_on (by assumption) ?_) | ((with_reducible refine Below.setCell ?_ ?_ _); rotate_left; focus (first | omega | (simp; done) | (simp; omega))) | (with_reducible assumption))); done))
        have qA := kA.cell
        have qB := kB.cell
        have qM := kM.cell
        clear hb1
        go_wp2_with fail
        refine (HVb.out _ _ (HNb.out.by hW)).mono ?_
        rintro e w2 ⟨rfl, hb2⟩
        replace kA := Blk.by hb2 kA
        replace kB := Blk.by hb2 kB
        replace kM := Blk.by hb2 kM
        replace hW := below_on hb2 hW
        clear hb2 qA qB qM
        have qA := kA.cell
        have qB := kB.cell
        have qM := kM.cell
        go_wp2
        go_ret
        exact ⟨ret_bool HR.out.symm, (by ((repeat (first | (with_reducible exact Below.refl _ _) | (with_reducible refine below_drewN ?_ _) | (with_reducible refine Below.drew ?_) | (with_reducible refine below_al ?_ _) | (with_reducible refine below_on (by assumption) ?_) | ((with_reducible refine Below.setCell ?_ ?_ _); rotate_left; focus (first | omega | (simp; done) | (simp; omega))) | (with_reducible assumption))); done))⟩
      replace hdq := Decidable.not_not.1 hdq
      have e2 : ((ds.length : Int) != (ds'.length : Int)) = false := by simp; omega
      have HDQ := Lib.hid hdq
      by_cases hpq : ¬ ps.length = ps'.length
      · have e3 : ((ps.length : Int) != (ps'.length : Int)) = true := by simp; omega
        have HR := Lib.hid (show R = false by rw [← hR]; simp [isoB, hpq])
        clear h h' hm1 hm2 hok hok' hnn hnn' hR hva hvb hdv hnet hdv' hdq hpq
        go_enter Try.func36, Try.ntmps36
        go_wp2_with fail
        refine (HVa.out _ _ (HNa.out.by (by ((repeat (first | (with_reducible exact Below.refl _ _) | (with_reducible refine below_drewN ?_ _) | (with_reducible refine Below.drew ?_) | (with_reducible refine below_al ?_ _) | (with_reducible refine below_on (by assumption) ?_) | ((with_reducible refine Below.setCell ?_ ?_ _); rotate_left; focus (first | omega | (simp; done) | (simp; omega))) | (with_reducible assumption))); done)))).mono ?_
        rintro e w1 ⟨rfl, hb1⟩
        have kA : Blk w1 w.heap.size #[.int .i64 (n : Int), .slice a1 ds.length c1, .slice a2 ps.length c2] 35 := (by ((repeat (first | (with_reducible assumption) | (with_reducible refine Blk.drewN ?_ _) | (with_reducible refine Blk.drew ?_) | ((with_reducible refine Blk.new _ ?_); focus (first | omega | (simp; done) | (simp; omega))) | (with_reducible refine Blk.past ?_ _) | ((with_reducible refine Blk.apart ?_ _ _ _ ?_); rotate_left; focus (first | omega | (simp; done) | (simp; omega))) | (with_reducible refine Blk.by (by assumption) ?_))); done))
        have kB : Blk w1 (w.heap.size + 1) #[.int .i64 (n : Int), .slice b1 ds'.length d1, .slice b2 ps'.length d2] 35 := (by ((repeat (first | (with_reducible assumption) | (with_reducible refine Blk.drewN ?_ _) | (with_reducible refine Blk.drew ?_) | ((with_reducible refine Blk.new _ ?_); focus (first | omega | (simp; done) | (simp; omega))) | (with_reducible refine Blk.past ?_ _) | ((with_reducible refine Blk.apart ?_ _ _ _ ?_); rotate_left; focus (first | omega | (simp; done) | (simp; omega))) | (with_reducible refine Blk.by (by assumption) ?_))); done))
        have kM : Blk w1 (w.heap.size + 1 + 1) #[.slice am names.length cm, .slice an zs.length cn] 54 := (by ((repeat (first | (with_reducible assumption) | (with_reducible refine Blk.drewN ?_ _) | (with_reducible refine Blk.drew ?_) | ((with_reducible refine Blk.new _ ?_); focus (first | omega | (simp; done) | (simp; omega))) | (with_reducible refine Blk.past ?_ _) | ((with_reducible refine Blk.apart ?_ _ _ _ ?_); rotate_left; focus (first | omega | (simp; done) | (simp; omega))) | (with_reducible refine Blk.by (by assumption) ?_))); done))
        have hW : Below w.heap.size w w1 := (by ((repeat (first | (with_reducible exact Below.refl _ _) | (with_reducible refine below_drewN ?_ _) | (with_reducible refine Below.drew ?_) | (with_reducible refine below_al ?_ _) | (with_reducible refine below_on (by assumption) ?_) | ((with_reducible refine Below.setCell ?_ ?_ _); rotate_left; focus (first | omega | (simp; done) | (simp; omega))) | (with_reducible assumption))); done))
        have qA := kA.cell
        have qB := kB.cell
        have qM := kM.cell
        clear hb1
        go_wp2_with fail
        refine (HVb.out _ _ (HNb.out.by hW)).mono ?_
        rintro e w2 ⟨rfl, hb2⟩
        replace kA := Blk.by hb2 kA
        replace kB := Blk.by hb2 kB
        replace kM := Blk.by hb2 kM
        replace hW := below_on hb2 hW
        clear hb2 qA qB qM
        have qA := kA.cell
        have qB := kB.cell
        have qM := kM.cell
        go_wp2
        go_ret
        exact ⟨ret_bool HR.out.symm, (by ((repeat (first | (with_reducible exact Below.refl _ _) | (with_reducible refine below_drewN ?_ _) | (with_reducible refine Below.drew ?_) | (with_reducible refine below_al ?_ _) | (with_reducible refine below_on (by assumption) ?_) | ((with_reducible refine Below.setCell ?_ ?_ _); rotate_left; focus (first | omega | (simp; done) | (simp; omega))) | (with_reducible assumption))); done))⟩
      replace hpq := Decidable.not_not.1 hpq
      have e3 : ((ps.length : Int) != (ps'.length : Int)) = false := by simp; omega
      have HPQ := Lib.hid hpq
      have HO1 := Lib.hid (fun w h => implOrder_any (.slice am names.length cm) names n w h hl)
      have HO2 := Lib.hid (fun w h => implOrder_any (.slice an zs.length cn) zs ds.length w h hl')
      cases hp1 : permB names (n : Int) with
      | false =>
        rw [hp1] at HO1
        have HR := Lib.hid (show R = false by rw [← hR]; simp [isoB, hp1])
        clear h h' hm1 hm2 hok hok' hnn hnn' hR hva hvb hdv hnet hdv' hdq hp1 hpq
        go_enter Try.func36, Try.ntmps36
        go_wp2_with fail
        refine (HVa.out _ _ (HNa.out.by (by ((repeat (first | (with_reducible exact Below.refl _ _) | (with_reducible refine below_drewN ?_ _) | (with_reducible refine Below.drew ?_) | (with_reducible refine below_al ?_ _) | (with_reducible refine below_on (by assumption) ?_) | ((with_reducible refine Below.setCell ?_ ?_ _); rotate_left; focus (first | omega | (simp; done) | (simp; omega))) | (with_reducible assumption))); done)))).mono ?_
        rintro e w1 ⟨rfl, hb1⟩
        have kA : Blk w1 w.heap.size #[.int .i64 (n : Int), .slice a1 ds.length c1, .slice a2 ps.length c2] 35 := (by ((repeat (first | (with_reducible assumption) | (with_reducible refine Blk.drewN ?_ _) | (with_reducible refine Blk.drew ?_) | ((with_reducible refine Blk.new _ ?_); focus (first | omega | (simp; done) | (simp; omega))) | (with_reducible refine Blk.past ?_ _) | ((with_reducible refine Blk.apart ?_ _ _ _ ?_); rotate_left; focus (first | omega | (simp; done) | (simp; omega))) | (with_reducible refine Blk.by (by assumption) ?_))); done))
        have kB : Blk w1 (w.heap.size + 1) #[.int .i64 (n : Int), .slice b1 ds'.length d1, .slice b2 ps'.length d2] 35 := (by ((repeat (first | (with_reducible assumption) | (with_reducible refine Blk.drewN ?_ _) | (with_reducible refine Blk.drew ?_) | ((with_reducible refine Blk.new _ ?_); focus (first | omega | (simp; done) | (simp; omega))) | (with_reducible refine Blk.past ?_ _) | ((with_reducible refine Blk.apart ?_ _ _ _ ?_); rotate_left; focus (first | omega | (simp; done) | (simp; omega))) | (with_reducible refine Blk.by (by assumption) ?_))); done))
        have kM : Blk w1 (w.heap.size + 1 + 1) #[.slice am names.length cm, .slice an zs.length cn] 54 := (by ((repeat (first | (with_reducible assumption) | (with_reducible refine Blk.drewN ?_ _) | (with_reducible refine Blk.drew ?_) | ((with_reducible refine Blk.new _ ?_); focus (first | omega | (simp; done) | (simp; omega))) | (with_reducible refine Blk.past ?_ _) | ((with_reducible refine Blk.apart ?_ _ _ _ ?_); rotate_left; focus (first | omega | (simp; done) | (simp; omega))) | (with_reducible refine Blk.by (by assumption) ?_))); done))
        have hW : Below w.heap.size w w1 := (by ((repeat (first | (with_reducible exact Below.refl _ _) | (with_reducible refine below_drewN ?_ _) | (with_reducible refine Below.drew ?_) | (with_reducible refine below_al ?_ _) | (with_reducible refine below_on (by assumption) ?_) | ((with_reducible refine Below.setCell ?_ ?_ _); rotate_left; focus (first | omega | (simp; done) | (simp; omega))) | (with_reducible assumption))); done))
        have qA := kA.cell
        have qB := kB.cell
        have qM := kM.cell
        clear hb1
        go_wp2_with fail
        refine (HVb.out _ _ (HNb.out.by hW)).mono ?_
        rintro e w2 ⟨rfl, hb2⟩
        replace kA := Blk.by hb2 kA
        replace kB := Blk.by hb2 kB
        replace kM := Blk.by hb2 kM
        replace hW := below_on hb2 hW
        clear hb2 qA qB qM
        have qA := kA.cell
        have qB := kB.cell
        have qM := kM.cell
        go_wp2_with fail
        refine (HO1.out _ (HS.out.by hW)).mono ?_
        rintro e w3 ⟨rfl, hb3⟩
        replace kA := Blk.by hb3 kA
        replace kB := Blk.by hb3 kB
        replace kM := Blk.by hb3 kM
        replace hW := below_on hb3 hW
        clear hb3 qA qB qM
        have qA := kA.cell
        have qB := kB.cell
        have qM := kM.cell
        go_wp2
        go_ret
        exact ⟨ret_bool HR.out.symm, (by ((repeat (first | (with_reducible exact Below.refl _ _) | (with_reducible refine below_drewN ?_ _) | (with_reducible refine Below.drew ?_) | (with_reducible refine below_al ?_ _) | (with_reducible refine below_on (by assumption) ?_) | ((with_reducible refine Below.setCell ?_ ?_ _); rotate_left; focus (first | omega | (simp; done) | (simp; omega))) | (with_reducible assumption))); done))⟩
      | true =>
        rw [hp1] at HO1
        have hlen : (names.length : Int) = n := (permB_iff.1 hp1).1
        cases hp2 : permB zs (ds.length : Int) with
        | false =>
          rw [hp2] at HO2
          have HR := Lib.hid (show R = false by rw [← hR]; simp [isoB, hp2])
          clear h h' hm1 hm2 hok hok' hnn hnn' hR hva hvb hdv hnet hdv' hdq hp1 hp2 hlen hpq
          go_enter Try.func36, Try.ntmps36
          go_wp2_with fail
          refine (HVa.out _ _ (HNa.out.by (by ((repeat (first | (with_reducible exact Below.refl _ _) | (with_reducible refine below_drewN ?_ _) | (with_reducible refine Below.drew ?_) | (with_reducible refine below_al ?_ _) | (with_reducible refine below_on (by assumption) ?_) | ((with_reducible refine Below.setCell ?_ ?_ _); rotate_left; focus (first | omega | (simp; done) | (simp; omega))) | (with_reducible assumption))); done)))).mono ?_
          rintro e w1 ⟨rfl, hb1⟩
          have kA : Blk w1 w.heap.size #[.int .i64 (n : Int), .slice a1 ds.length c1, .slice a2 ps.length c2] 35 := (by ((repeat (first | (with_reducible assumption) | (with_reducible refine Blk.drewN ?_ _) | (with_reducible refine Blk.drew ?_) | ((with_reducible refine Blk.new _ ?_); focus (first | omega | (simp; done) | (simp; omega))) | (with_reducible refine Blk.past ?_ _) | ((with_reducible refine Blk.apart ?_ _ _ _ ?_); rotate_left; focus (first | omega | (simp; done) | (simp; omega))) | (with_reducible refine Blk.by (by assumption) ?_))); done))
          have kB : Blk w1 (w.heap.size + 1) #[.int .i64 (n : Int), .slice b1 ds'.length d1, .slice b2 ps'.length d2] 35 := (by ((repeat (first | (with_reducible assumption) | (with_reducible refine Blk.drewN ?_ _) | (with_reducible refine Blk.drew ?_) | ((with_reducible refine Blk.new _ ?_); focus (first | omega | (simp; done) | (simp; omega))) | (with_reducible refine Blk.past ?_ _) | ((with_reducible refine Blk.apart ?_ _ _ _ ?_); rotate_left; focus (first | omega | (simp; done) | (simp; omega))) | (with_reducible refine Blk.by (by assumption) ?_))); done))
          have kM : Blk w1 (w.heap.size + 1 + 1) #[.slice am names.length cm, .slice an zs.length cn] 54 := (by ((repeat (first | (with_reducible assumption) | (with_reducible refine Blk.drewN ?_ _) | (with_reducible refine Blk.drew ?_) | ((with_reducible refine Blk.new _ ?_); focus (first | omega | (simp; done) | (simp; omega))) | (with_reducible refine Blk.past ?_ _) | ((with_reducible refine Blk.apart ?_ _ _ _ ?_); rotate_left; focus (first | omega | (simp; done) | (simp; omega))) | (with_reducible refine Blk.by (by assumption) ?_))); done))
          have hW : Below w.heap.size w w1 := (by ((repeat (first | (with_reducible exact Below.refl _ _) | (with_reducible refine below_drewN ?_ _) | (with_reducible refine Below.drew ?_) | (with_reducible refine below_al ?_ _) | (with_reducible refine below_on (by assumption) ?_) | ((with_reducible refine Below.setCell ?_ ?_ _); rotate_left; focus (first | omega | (simp; done) | (simp; omega))) | (with_reducible assumption))); done))
          have qA := kA.cell
          have qB := kB.cell
          have qM := kM.cell
          clear hb1
          go_wp2_with fail
          refine (HVb.out _ _ (HNb.out.by hW)).mono ?_
          rintro e w2 ⟨rfl, hb2⟩
          replace kA := Blk.by hb2 kA
          replace kB := Blk.by hb2 kB
          replace kM := Blk.by hb2 kM
          replace hW := below_on hb2 hW
          clear hb2 qA qB qM
          have qA := kA.cell
          have qB := kB.cell
          have qM := kM.cell
          go_wp2_with fail
          refine (HO1.out _ (HS.out.by hW)).mono ?_
          rintro e w3 ⟨rfl, hb3⟩
          replace kA := Blk.by hb3 kA
          replace kB := Blk.by hb3 kB
          replace kM := Blk.by hb3 kM
          replace hW := below_on hb3 hW
          clear hb3 qA qB qM
          have qA := kA.cell
          have qB := kB.cell
          have qM := kM.cell
          go_wp2_with fail
          refine (HO2.out _ (HZ.out.by hW)).mono ?_
          rintro e w4 ⟨rfl, hb4⟩
          replace kA := Blk.by hb4 kA
          replace kB := Blk.by hb4 kB
          replace kM := Blk.by hb4 kM
          replace hW := below_on hb4 hW
          clear hb4 qA qB qM
          have qA := kA.cell
          have qB := kB.cell
          have qM := kM.cell
          go_wp2
          go_ret
          exact ⟨ret_bool HR.out.symm, (by ((repeat (first | (with_reducible exact Below.refl _ _) | (with_reducible refine below_drewN ?_ _) | (with_reducible refine Below.drew ?_) | (with_reducible refine below_al ?_ _) | (with_reducible refine below_on (by assumption) ?_) | ((with_reducible refine Below.setCell ?_ ?_ _); rotate_left; focus (first | omega | (simp; done) | (simp; omega))) | (with_reducible assumption))); done))⟩
        | true =>
          rw [hp2] at HO2
          have hx3 : ∀ d ∈ ds, d.pins.length ≤ 3 ∧ d.pins ≠ [] ∧ ∀ z ∈ d.pins, 0 ≤ z ∧ z < names.length := fun d hd => by
            have q := dvB_pins (hdv d hd)
            exact ⟨q.1, fun e => by rw [e] at q; simp at q, fun z hz => by have := q.2.2 z hz; omega⟩
          have hy3 : ∀ d ∈ ds', d.pins.length ≤ 3 := fun d hd => (dvB_pins (hdv' d hd)).1
          have hpn : ∀ p ∈ ps, 0 ≤ p.net ∧ p.net < names.length := fun p hp => by have := hnet p hp; omega
          have HP2 := Lib.hid hp2
          have HDS := Lib.hid (show DvSl w (.slice a1 ds.length c1) ds from (nlV_parts HNa.out).1)
          have HES := Lib.hid (show DvSl w (.slice b1 ds'.length d1) ds' from (nlV_parts HNb.out).1)
          have HMAP := Lib.hid (fun d sx w hd h hn => mapped_any d names sx (.slice am names.length cm) w h hn (hx3 d hd).1 (hx3 d hd).2.1 (hx3 d hd).2.2)
          have HNRM := Lib.hid (fun (d : Dv) sy w (hd : d ∈ ds') h => implNorm_any d.kind d.wd d.len sy d.pins w h (by have := hy3 d hd; omega))
          have HPN := Lib.hid hpn
          have HPS := Lib.hid (show PtSl w (.slice a2 ps.length c2) ps from (nlV_parts HNa.out).2)
          have HQS := Lib.hid (show PtSl w (.slice b2 ps'.length d2) ps' from (nlV_parts HNb.out).2)
          have HRR := Lib.hid (show R = (allB (prtAt ps ps' names) ps.length && allB (devAt ds ds' (names, zs)) ds.length) by rw [← hR]; simp only [isoB, hva, hvb, hp1, hp2, decide_eq_true hdq, decide_eq_true hpq, Bool.true_and, decide_true])
          have HPY := Lib.hid (@allB_yes (prtAt ps ps' names) ps.length)
          have HPF := Lib.hid (fun i h h' => @allB_no (prtAt ps ps' names) ps.length i h h')
          have HAY := Lib.hid (@allB_yes (devAt ds ds' (names, zs)) ds.length)
          have HAN := Lib.hid (fun i h h' => @allB_no (devAt ds ds' (names, zs)) ds.length i h h')
          have HPT := Lib.hid (fun i p q => @prtAt_of ps ps' names i p q)
          have HAT := Lib.hid (fun i j d e => @devAt_of ds ds' (names, zs) i j d e)
          clear h h' hm1 hm2 hok hok' hnn hnn' hR hva hvb hdv hnet hdv' hdq hpq hp1 hp2 hlen hx3 hy3 hpn
          go_enter Try.func36, Try.ntmps36
          go_wp2_with fail
          refine (HVa.out _ _ (HNa.out.by (by ((repeat (first | (with_reducible exact Below.refl _ _) | (with_reducible refine below_drewN ?_ _) | (with_reducible refine Below.drew ?_) | (with_reducible refine below_al ?_ _) | (with_reducible refine below_on (by assumption) ?_) | ((with_reducible refine Below.setCell ?_ ?_ _); rotate_left; focus (first | omega | (simp; done) | (simp; omega))) | (with_reducible assumption))); done)))).mono ?_
          rintro e w1 ⟨rfl, hb1⟩
          have kA : Blk w1 w.heap.size #[.int .i64 (n : Int), .slice a1 ds.length c1, .slice a2 ps.length c2] 35 := (by ((repeat (first | (with_reducible assumption) | (with_reducible refine Blk.drewN ?_ _) | (with_reducible refine Blk.drew ?_) | ((with_reducible refine Blk.new _ ?_); focus (first | omega | (simp; done) | (simp; omega))) | (with_reducible refine Blk.past ?_ _) | ((with_reducible refine Blk.apart ?_ _ _ _ ?_); rotate_left; focus (first | omega | (simp; done) | (simp; omega))) | (with_reducible refine Blk.by (by assumption) ?_))); done))
          have kB : Blk w1 (w.heap.size + 1) #[.int .i64 (n : Int), .slice b1 ds'.length d1, .slice b2 ps'.length d2] 35 := (by ((repeat (first | (with_reducible assumption) | (with_reducible refine Blk.drewN ?_ _) | (with_reducible refine Blk.drew ?_) | ((with_reducible refine Blk.new _ ?_); focus (first | omega | (simp; done) | (simp; omega))) | (with_reducible refine Blk.past ?_ _) | ((with_reducible refine Blk.apart ?_ _ _ _ ?_); rotate_left; focus (first | omega | (simp; done) | (simp; omega))) | (with_reducible refine Blk.by (by assumption) ?_))); done))
          have kM : Blk w1 (w.heap.size + 1 + 1) #[.slice am names.length cm, .slice an zs.length cn] 54 := (by ((repeat (first | (with_reducible assumption) | (with_reducible refine Blk.drewN ?_ _) | (with_reducible refine Blk.drew ?_) | ((with_reducible refine Blk.new _ ?_); focus (first | omega | (simp; done) | (simp; omega))) | (with_reducible refine Blk.past ?_ _) | ((with_reducible refine Blk.apart ?_ _ _ _ ?_); rotate_left; focus (first | omega | (simp; done) | (simp; omega))) | (with_reducible refine Blk.by (by assumption) ?_))); done))
          have hW : Below w.heap.size w w1 := (by ((repeat (first | (with_reducible exact Below.refl _ _) | (with_reducible refine below_drewN ?_ _) | (with_reducible refine Below.drew ?_) | (with_reducible refine below_al ?_ _) | (with_reducible refine below_on (by assumption) ?_) | ((with_reducible refine Below.setCell ?_ ?_ _); rotate_left; focus (first | omega | (simp; done) | (simp; omega))) | (with_reducible assumption))); done))
          have qA := kA.cell
          have qB := kB.cell
          have qM := kM.cell
          clear hb1
          go_wp2_with fail
          refine (HVb.out _ _ (HNb.out.by hW)).mono ?_
          rintro e w2 ⟨rfl, hb2⟩
          replace kA := Blk.by hb2 kA
          replace kB := Blk.by hb2 kB
          replace kM := Blk.by hb2 kM
          replace hW := below_on hb2 hW
          clear hb2 qA qB qM
          have qA := kA.cell
          have qB := kB.cell
          have qM := kM.cell
          go_wp2_with fail
          refine (HO1.out _ (HS.out.by hW)).mono ?_
          rintro e w3 ⟨rfl, hb3⟩
          replace kA := Blk.by hb3 kA
          replace kB := Blk.by hb3 kB
          replace kM := Blk.by hb3 kM
          replace hW := below_on hb3 hW
          clear hb3 qA qB qM
          have qA := kA.cell
          have qB := kB.cell
          have qM := kM.cell
          go_wp2_with fail
          refine (HO2.out _ (HZ.out.by hW)).mono ?_
          rintro e w4 ⟨rfl, hb4⟩
          replace kA := Blk.by hb4 kA
          replace kB := Blk.by hb4 kB
          replace kM := Blk.by hb4 kM
          replace hW := below_on hb4 hW
          clear hb4 qA qB qM
          have qA := kA.cell
          have qB := kB.cell
          have qM := kM.cell
          go_wp2
          go_loopw [63] (fun i wr => ∃ k : Nat, k ≤ ps.length ∧ i = .int .i64 k ∧ Hid (∀ j, j < k → prtAt ps ps' names j = true) ∧ Blk wr w.heap.size #[.int .i64 (n : Int), .slice a1 ds.length c1, .slice a2 ps.length c2] 35 ∧ Blk wr (w.heap.size + 1) #[.int .i64 (n : Int), .slice b1 ds'.length d1, .slice b2 ps'.length d2] 35 ∧ Blk wr (w.heap.size + 1 + 1) #[.slice am names.length cm, .slice an zs.length cn] 54 ∧ Below w.heap.size w wr) (fun i _ => ps.length - (intOf i).toNat)
          case atStart => exact ⟨0, Nat.zero_le _, rfl, Lib.hid (by intro j h; omega), kA, kB, kM, hW⟩
          case round =>
            clear kA kB kM hW qA qB qM
            obtain ⟨k, hk, rfl, HI, kA, kB, kM, hb⟩ := hrel
            have qA := kA.cell
            have qB := kB.cell
            have qM := kM.cell
            have lA := kA.lt
            have lB := kB.lt
            have lM := kM.lt
            by_cases hlt : k < ps.length
            · obtain ⟨p, hp⟩ : ∃ p, ps[k]? = some p := ⟨ps[k], List.getElem?_eq_getElem hlt⟩
              obtain ⟨q, hq⟩ : ∃ q, ps'[k]? = some q := ⟨ps'[k]'(by rw [← HPQ.out]; exact hlt), List.getElem?_eq_getElem _⟩
              obtain ⟨hp0, hp1⟩ := HPN.out p (List.mem_of_getElem? hp)
              have hat := HPT.out k p q hp hq
              rcases HPS.out with ⟨_, _, _, h2⟩ | ⟨pb, po, pc, he, _, _, h4⟩
              · rw [h2] at hp; simp at hp
              obtain ⟨rfl, rfl⟩ : a2 = some ⟨pb, po, none⟩ ∧ c2 = pc := by simpa using he
              rcases HQS.out with ⟨_, _, _, h2⟩ | ⟨qb, qo, qc, he', _, _, h4'⟩
              · rw [h2] at hq; simp at hq
              obtain ⟨rfl, rfl⟩ : b2 = some ⟨qb, qo, none⟩ ∧ d2 = qc := by simpa using he'
              obtain ⟨p1, p2⟩ := (h4 k p hp).by hb
              obtain ⟨q1, q2⟩ := (h4' k q hq).by hb
              obtain ⟨pn, hpn⟩ : ∃ n : Nat, p.net = n := ⟨p.net.toNat, by omega⟩
              rcases HS.out.by hb with ⟨_, _, _, h2⟩ | ⟨nb, no, nc, hen, _, _, hcn⟩
              · rw [h2] at hp1; simp at hp1; omega
              obtain ⟨rfl, rfl⟩ : am = some ⟨nb, no, none⟩ ∧ cm = nc := by simpa using hen
              have hpl : pn < names.length := by omega
              have c3 := hcn pn names[pn] (List.getElem?_eq_getElem hpl)
              have hnm : nmOf names p.net = names[pn] := by simp [nmOf, hpn, hpl]
              rw [hnm] at hat
              rw [hpn] at p2
              generalize names[pn] = z at *
              obtain ⟨name, net⟩ := p
              obtain ⟨name', net'⟩ := q
              dsimp only at *
              have HAT' := Lib.hid hat
              have l1 := lt_of_cell p1
              have l2 := lt_of_cell q1
              have l3 := lt_of_cell c3
              dsimp only at l1 l2 l3
              have i1 : (0 : Int) ≤ (k : Int) := by omega
              have i2 : (k : Int) < (ps.length : Int) := by omega
              have i2' : (k : Int) < (ps'.length : Int) := by have := HPQ.out; omega
              have i3 : (0 : Int) ≤ (pn : Int) := by omega
              have i4 : (pn : Int) < (names.length : Int) := by omega
              clear hp hq hat he he' hen hcn h4 h4' hnm hpn hp0 hp1
              cases hna : (name.toList == name'.toList) with
              | true =>
                rw [hna] at HAT'
                by_cases hnz : z = net'
                · subst hnz
                  have e4 : (z != z) = false := by simp
                  have e5 : (z == z) = true := by simp
                  go_wp2
                  go_quiet (fail)
                  go_wp2
                  refine ⟨⟨k + 1, by omega, by go_num, Lib.hid (fun j hj => ?_), (by ((repeat (first | (with_reducible assumption) | (with_reducible refine Blk.drewN ?_ _) | (with_reducible refine Blk.drew ?_) | ((with_reducible refine Blk.new _ ?_); focus (first | omega | (simp; done) | (simp; omega))) | (with_reducible refine Blk.past ?_ _) | ((with_reducible refine Blk.apart ?_ _ _ _ ?_); rotate_left; focus (first | omega | (simp; done) | (simp; omega))) | (with_reducible refine Blk.by (by assumption) ?_))); done)), (by ((repeat (first | (with_reducible assumption) | (with_reducible refine Blk.drewN ?_ _) | (with_reducible refine Blk.drew ?_) | ((with_reducible refine Blk.new _ ?_); focus (first | omega | (simp; done) | (simp; omega))) | (with_reducible refine Blk.past ?_ _) | ((with_reducible refine Blk.apart ?_ _ _ _ ?_); rotate_left; focus (first | omega | (simp; done) | (simp; omega))) | (with_reducible refine Blk.by (by assumption) ?_))); done)), (by ((repeat (first | (with_reducible assumption) | (with_reducible refine Blk.drewN ?_ _) | (with_reducible refine Blk.drew ?_) | ((with_reducible refine Blk.new _ ?_); focus (first | omega | (simp; done) | (simp; omega))) | (with_reducible refine Blk.past ?_ _) | ((with_reducible refine Blk.apart ?_ _ _ _ ?_); rotate_left; focus (first | omega | (simp; done) | (simp; omega))) | (with_reducible refine Blk.by (by assumption) ?_))); done)), (by ((repeat (first | (with_reducible exact Below.refl _ _) | (with_reducible refine below_drewN ?_ _) | (with_reducible refine Below.drew ?_) | (with_reducible refine below_al ?_ _) | (with_reducible refine below_on (by assumption) ?_) | ((with_reducible refine Below.setCell ?_ ?_ _); rotate_left; focus (first | omega | (simp; done) | (simp; omega))) | (with_reducible assumption))); done))⟩, by simp [intOf]; omega⟩
                  by_cases ej : j = k
                  · subst ej; rw [HAT'.out]; simp
                  · exact HI.out j (by omega)
                · have e4 : (z != net') = true := by simpa using hnz
                  have e5 : (z == net') = false := by simpa using hnz
                  have hr := Lib.hid (show R = false by rw [HRR.out, HPF.out k hlt (by rw [HAT'.out]; simp [hnz])]; rfl)
                  clear hnz
                  go_wp2
                  go_quiet (fail)
                  go_wp2
                  go_ret
                  exact ⟨ret_bool hr.out.symm, (by ((repeat (first | (with_reducible exact Below.refl _ _) | (with_reducible refine below_drewN ?_ _) | (with_reducible refine Below.drew ?_) | (with_reducible refine below_al ?_ _) | (with_reducible refine below_on (by assumption) ?_) | ((with_reducible refine Below.setCell ?_ ?_ _); rotate_left; focus (first | omega | (simp; done) | (simp; omega))) | (with_reducible assumption))); done))⟩
              | false =>
                rw [hna] at HAT'
                have hr := Lib.hid (show R = false by rw [HRR.out, HPF.out k hlt (by rw [HAT'.out]; simp)]; rfl)
                go_wp2
                go_quiet (fail)
                go_wp2
                go_ret
                exact ⟨ret_bool hr.out.symm, (by ((repeat (first | (with_reducible exact Below.refl _ _) | (with_reducible refine below_drewN ?_ _) | (with_reducible refine Below.drew ?_) | (with_reducible refine below_al ?_ _) | (with_reducible refine below_on (by assumption) ?_) | ((with_reducible refine Below.setCell ?_ ?_ _); rotate_left; focus (first | omega | (simp; done) | (simp; omega))) | (with_reducible assumption))); done))⟩
            · obtain rfl : k = ps.length := by omega
              replace HRR := Lib.hid (show R = allB (devAt ds ds' (names, zs)) ds.length by rw [HRR.out, HPY.out (fun j hj => HI.out j hj)]; rfl)
              obtain ⟨wo, hwo⟩ : ∃ x : World, x = wr := ⟨_, rfl⟩
              subst hwo
              go_wp2
              go_loopw [93] (fun i wr => ∃ k : Nat, k ≤ ds.length ∧ i = .int .i64 k ∧ Hid (∀ j, j < k → devAt ds ds' (names, zs) j = true) ∧ Blk wr w.heap.size #[.int .i64 (n : Int), .slice a1 ds.length c1, .slice a2 ps.length c2] 35 ∧ Blk wr (w.heap.size + 1) #[.int .i64 (n : Int), .slice b1 ds'.length d1, .slice b2 ps'.length d2] 35 ∧ Blk wr (w.heap.size + 1 + 1) #[.slice am names.length cm, .slice an zs.length cn] 54 ∧ Below w.heap.size w wr) (fun i _ => ds.length - (intOf i).toNat)
              case atStart => exact ⟨0, Nat.zero_le _, rfl, Lib.hid (by intro j h; omega), kA, kB, kM, hb⟩
              case round =>
                clear kA kB kM hb qA qB qM HI lA lB lM
                obtain ⟨k, hk, rfl, HI, kA, kB, kM, hb⟩ := hrel
                have qA := kA.cell
                have lA := kA.lt
                have lB := kB.lt
                have lM := kM.lt
                by_cases hlt : k < ds.length
                · obtain ⟨x, hx⟩ : ∃ x, ds[k]? = some x := ⟨ds[k], List.getElem?_eq_getElem hlt⟩
                  have hzl : zs.length = ds.length := by have := (permB_iff.1 HP2.out).1; omega
                  obtain ⟨z, hz⟩ : ∃ z, zs[k]? = some z := ⟨zs[k]'(by omega), List.getElem?_eq_getElem _⟩
                  obtain ⟨hz1, hz2⟩ := (permB_iff.1 HP2.out).2.2 z (List.mem_of_getElem? hz)
                  obtain ⟨j, rfl⟩ : ∃ j : Nat, z = j := ⟨z.toNat, by omega⟩
                  have hjl : j < ds'.length := by have := HDQ.out; omega
                  obtain ⟨y, hy⟩ : ∃ y, ds'[j]? = some y := ⟨ds'[j], List.getElem?_eq_getElem hjl⟩
                  rcases HDS.out with ⟨_, _, _, h2⟩ | ⟨xb, xo, xc, he, _, _, hdc⟩
                  · rw [h2] at hx; simp at hx
                  obtain ⟨rfl, rfl⟩ : a1 = some ⟨xb, xo, none⟩ ∧ c1 = xc := by simpa using he
                  rcases HES.out with ⟨_, _, _, h2⟩ | ⟨yb, yo, yc, he', _, _, hec⟩
                  · rw [h2] at hy; simp at hy
                  obtain ⟨rfl, rfl⟩ : b1 = some ⟨yb, yo, none⟩ ∧ d1 = yc := by simpa using he'
                  rcases HZ.out with ⟨_, _, _, h2⟩ | ⟨zb, zo, zc, hez, _, _, hzc⟩
                  · rw [h2] at hz; simp at hz
                  obtain ⟨rfl, rfl⟩ : an = some ⟨zb, zo, none⟩ ∧ cn = zc := by simpa using hez
                  obtain ⟨sx, p1, p2, p3, p4, hSx⟩ := hdc k x hx
                  obtain ⟨sy, q1, q2, q3, q4, hSy⟩ := hec j y hy
                  have r1 := hzc k j hz
                  have HSX := Lib.hid hSx
                  have HSY := Lib.hid hSy
                  obtain ⟨ax, cx, rfl⟩ := hSx.len
                  obtain ⟨ay, cy, rfl⟩ := hSy.len
                  have HM1 := Lib.hid (fun w h hn => HMAP.out x (.slice ax x.pins.length cx) w (List.mem_of_getElem? hx) h hn)
                  have HN2 := Lib.hid (fun w h => HNRM.out y (.slice ay y.pins.length cy) w (List.mem_of_getElem? hy) h)
                  have HC := Lib.hid (fun s1 s2 w h h' => compareDevices_any x.kind x.wd x.len y.kind y.wd y.len s1 s2 (normz x.kind (x.pins.map (nmOf names))) (normz y.kind y.pins) w h h')
                  have hAT := HAT.out k j x y hx hz hy
                  dsimp only [isoD] at hAT
                  have d1' := cell_by' hb p1
                  have d2' := cell_by' hb p2
                  have d3' := cell_by' hb p3
                  have d4' := cell_by' hb p4
                  have i1 : (0 : Int) ≤ (k : Int) := by omega
                  have i2 : (k : Int) < (ds.length : Int) := by omega
                  have i2' : (k : Int) < (zs.length : Int) := by omega
                  have i3 : (0 : Int) ≤ (j : Int) := by omega
                  have i4 : (j : Int) < (ds'.length : Int) := by omega
                  generalize normz x.kind (x.pins.map (nmOf names)) = nx at *
                  generalize normz y.kind y.pins = ny at *
                  generalize devcmp x.kind y.kind nx ny x.wd y.wd x.len y.len = cv at *
                  have HR1 := Lib.hid q1
                  have HR2 := Lib.hid q2
                  have HR3 := Lib.hid q3
                  have HR4 := Lib.hid q4
                  have HR5 := Lib.hid r1
                  clear hx hz hy hzl he he' hez hdc hec hzc hSx hSy p1 p2 p3 p4 q1 q2 q3 q4 r1
                  obtain ⟨wo, hwo⟩ : ∃ x : World, x = wr := ⟨_, rfl⟩
                  subst hwo
                  obtain ⟨Dp, hDp⟩ : ∃ D, wo.heap.size = D := ⟨_, rfl⟩
                  cases hcv : (cv == 0) with
                  | true =>
                    have hcv' : (cv != 0) = false := by simpa using hcv
                    have hA : devAt ds ds' (names, zs) k = true := by rw [hAT]; simpa using hcv
                    have HA := Lib.hid hA
                    clear hAT hA
                    go_upto_region 15 with fail
                    obtain ⟨wA, hwA⟩ : ∃ wA, wA = wo.alloc (.cells #[.int .i64 x.kind, .slice ax x.pins.length cx, .int .i64 x.wd, .int .i64 x.len] 83) := ⟨_, rfl⟩
                    have hal : Below wo.heap.size wo wA := by rw [hwA]; exact (Below.refl _ wo).alloc (Nat.le_refl _) _
                    have kD : Blk wA Dp #[.int .i64 x.kind, .slice ax x.pins.length cx, .int .i64 x.wd, .int .i64 x.len] 83 := by rw [hwA]; exact Blk.new _ hDp.symm
                    rw [← hwA]
                    (try rw [hDp])
                    replace kA := Blk.by hal kA
                    replace kB := Blk.by hal kB
                    replace kM := Blk.by hal kM
                    replace hb := below_on hal hb
                    clear hal hwA hDp lA lB lM qA d1' d2' d3' d4'
                    have qB := kB.cell
                    have qM := kM.cell
                    have qD := kD.cell
                    have g1 := cell_by' hb HR1.out
                    have g2 := cell_by' hb HR2.out
                    have g3 := cell_by' hb HR3.out
                    have g4 := cell_by' hb HR4.out
                    have u1 := cell_by' hb HR5.out
                    go_wp2_with fail
                    go_region_held3 (fun w' => (Blk w' (w.heap.size + 1) #[.int .i64 (n : Int), .slice (some ⟨yb, yo, none⟩) ds'.length d1, .slice b2 ps'.length d2] 35 ∧ ∀ o, w'.cell? ⟨w.heap.size + 1, o, none⟩ = (#[.int .i64 (n : Int), .slice (some ⟨yb, yo, none⟩) ds'.length d1, .slice b2 ps'.length d2] : Array Value)[o]?) ∧ (Blk w' (w.heap.size + 1 + 1) #[.slice am names.length cm, .slice (some ⟨zb, zo, none⟩) zs.length cn] 54 ∧ ∀ o, w'.cell? ⟨w.heap.size + 1 + 1, o, none⟩ = (#[.slice am names.length cm, .slice (some ⟨zb, zo, none⟩) zs.length cn] : Array Value)[o]?) ∧ (Blk w' Dp #[.int .i64 x.kind, .slice ax x.pins.length cx, .int .i64 x.wd, .int .i64 x.len] 83 ∧ ∀ o, w'.cell? ⟨Dp, o, none⟩ = (#[.int .i64 x.kind, .slice ax x.pins.length cx, .int .i64 x.wd, .int .i64 x.len] : Array Value)[o]?) ∧ (w'.cell? ⟨yb, yo + j * 4, none⟩ = some (.int .i64 y.kind) ∧ w'.cell? ⟨yb, yo + j * 4 + 1, none⟩ = some (.slice ay y.pins.length cy) ∧ w'.cell? ⟨yb, yo + j * 4 + 2, none⟩ = some (.int .i64 y.wd) ∧ w'.cell? ⟨yb, yo + j * 4 + 3, none⟩ = some (.int .i64 y.len)) ∧ w'.cell? ⟨zb, zo + k, none⟩ = some (.int .i64 (j : Int)) ∧ Below w.heap.size w w')
                      (first | exact ⟨(kB).both, (kM).both, (kD).both, ⟨g1, g2, g3, g4⟩, u1, hb.drew⟩ | exact ⟨(Blk.by hb1 (kB)).both, (Blk.by hb1 (kM)).both, (Blk.by hb1 (kD)).both, ⟨cell_by' hb1 (g1), cell_by' hb1 (g2), cell_by' hb1 (g3), cell_by' hb1 (g4)⟩, cell_by' hb1 (u1), below_on hb1 (hb.drew)⟩ | exact ⟨(Blk.by hb2 (Blk.by hb1 (kB))).both, (Blk.by hb2 (Blk.by hb1 (kM))).both, (Blk.by hb2 (Blk.by hb1 (kD))).both, ⟨cell_by' hb2 (cell_by' hb1 (g1)), cell_by' hb2 (cell_by' hb1 (g2)), cell_by' hb2 (cell_by' hb1 (g3)), cell_by' hb2 (cell_by' hb1 (g4))⟩, cell_by' hb2 (cell_by' hb1 (u1)), below_on hb2 (below_on hb1 (hb.drew))⟩ | exact ⟨(Blk.by hb3 (Blk.by hb2 (Blk.by hb1 (kB)))).both, (Blk.by hb3 (Blk.by hb2 (Blk.by hb1 (kM)))).both, (Blk.by hb3 (Blk.by hb2 (Blk.by hb1 (kD)))).both, ⟨cell_by' hb3 (cell_by' hb2 (cell_by' hb1 (g1))), cell_by' hb3 (cell_by' hb2 (cell_by' hb1 (g2))), cell_by' hb3 (cell_by' hb2 (cell_by' hb1 (g3))), cell_by' hb3 (cell_by' hb2 (cell_by' hb1 (g4)))⟩, cell_by' hb3 (cell_by' hb2 (cell_by' hb1 (u1))), below_on hb3 (below_on hb2 (below_on hb1 (hb.drew)))⟩)
                      (first | (go_at_call 87; refine (HM1.out _ (HSX.out.by hb.drew) (HS.out.by hb.drew)).mono ?_; rintro e w1 ⟨v1, rfl, hO1, hb1⟩; have HO1 := Lib.hid hO1; obtain ⟨o1, c1', rfl⟩ := hO1.len; clear hO1) | (go_at_call 88; refine (HN2.out _ ((HSY.out.by hb.drew).by hb1)).mono ?_; rintro e w2 ⟨v2, rfl, hO2, hb2⟩; have HO2 := Lib.hid hO2.sl; obtain ⟨o2, c2', rfl⟩ := hO2.len; clear hO2) | (go_at_call 86; refine (HC.out _ _ _ (HO1.out.by hb2) HO2.out).mono ?_; rintro e w3 ⟨rfl, hb3⟩))
                    replace kA := Blk.by hb3 (Blk.by hb2 (Blk.by hb1 kA.drew))
                    replace kB := Blk.by hb3 (Blk.by hb2 (Blk.by hb1 kB.drew))
                    replace kM := Blk.by hb3 (Blk.by hb2 (Blk.by hb1 kM.drew))
                    replace hb := below_on hb3 (below_on hb2 (below_on hb1 hb.drew))
                    clear g1 g2 g3 g4 u1 hb1 hb2 hb3 qB qM qD kD
                    go_wp2
                    refine ⟨⟨k + 1, by omega, by go_num, Lib.hid (fun i hi => ?_), kA, kB, kM, hb⟩, by simp [intOf]; omega⟩
                    by_cases ei : i = k
                    · subst ei; exact HA.out
                    · exact HI.out i (by omega)
                  | false =>
                    have hcv' : (cv != 0) = true := by simpa using hcv
                    have hA : devAt ds ds' (names, zs) k = false := by rw [hAT]; simpa using hcv
                    have hr := Lib.hid (HRR.out.trans (HAN.out k hlt hA))
                    clear hAT hA
                    go_upto_region 15 with fail
                    obtain ⟨wA, hwA⟩ : ∃ wA, wA = wo.alloc (.cells #[.int .i64 x.kind, .slice ax x.pins.length cx, .int .i64 x.wd, .int .i64 x.len] 83) := ⟨_, rfl⟩
                    have hal : Below wo.heap.size wo wA := by rw [hwA]; exact (Below.refl _ wo).alloc (Nat.le_refl _) _
                    have kD : Blk wA Dp #[.int .i64 x.kind, .slice ax x.pins.length cx, .int .i64 x.wd, .int .i64 x.len] 83 := by rw [hwA]; exact Blk.new _ hDp.symm
                    rw [← hwA]
                    (try rw [hDp])
                    replace kA := Blk.by hal kA
                    replace kB := Blk.by hal kB
                    replace kM := Blk.by hal kM
                    replace hb := below_on hal hb
                    clear hal hwA hDp lA lB lM qA d1' d2' d3' d4'
                    have qB := kB.cell
                    have qM := kM.cell
                    have qD := kD.cell
                    have g1 := cell_by' hb HR1.out
                    have g2 := cell_by' hb HR2.out
                    have g3 := cell_by' hb HR3.out
                    have g4 := cell_by' hb HR4.out
                    have u1 := cell_by' hb HR5.out
                    go_wp2_with fail
                    go_region_held3 (fun w' => (Blk w' (w.heap.size + 1) #[.int .i64 (n : Int), .slice (some ⟨yb, yo, none⟩) ds'.length d1, .slice b2 ps'.length d2] 35 ∧ ∀ o, w'.cell? ⟨w.heap.size + 1, o, none⟩ = (#[.int .i64 (n : Int), .slice (some ⟨yb, yo, none⟩) ds'.length d1, .slice b2 ps'.length d2] : Array Value)[o]?) ∧ (Blk w' (w.heap.size + 1 + 1) #[.slice am names.length cm, .slice (some ⟨zb, zo, none⟩) zs.length cn] 54 ∧ ∀ o, w'.cell? ⟨w.heap.size + 1 + 1, o, none⟩ = (#[.slice am names.length cm, .slice (some ⟨zb, zo, none⟩) zs.length cn] : Array Value)[o]?) ∧ (Blk w' Dp #[.int .i64 x.kind, .slice ax x.pins.length cx, .int .i64 x.wd, .int .i64 x.len] 83 ∧ ∀ o, w'.cell? ⟨Dp, o, none⟩ = (#[.int .i64 x.kind, .slice ax x.pins.length cx, .int .i64 x.wd, .int .i64 x.len] : Array Value)[o]?) ∧ (w'.cell? ⟨yb, yo + j * 4, none⟩ = some (.int .i64 y.kind) ∧ w'.cell? ⟨yb, yo + j * 4 + 1, none⟩ = some (.slice ay y.pins.length cy) ∧ w'.cell? ⟨yb, yo + j * 4 + 2, none⟩ = some (.int .i64 y.wd) ∧ w'.cell? ⟨yb, yo + j * 4 + 3, none⟩ = some (.int .i64 y.len)) ∧ w'.cell? ⟨zb, zo + k, none⟩ = some (.int .i64 (j : Int)) ∧ Below w.heap.size w w')
                      (first | exact ⟨(kB).both, (kM).both, (kD).both, ⟨g1, g2, g3, g4⟩, u1, hb.drew⟩ | exact ⟨(Blk.by hb1 (kB)).both, (Blk.by hb1 (kM)).both, (Blk.by hb1 (kD)).both, ⟨cell_by' hb1 (g1), cell_by' hb1 (g2), cell_by' hb1 (g3), cell_by' hb1 (g4)⟩, cell_by' hb1 (u1), below_on hb1 (hb.drew)⟩ | exact ⟨(Blk.by hb2 (Blk.by hb1 (kB))).both, (Blk.by hb2 (Blk.by hb1 (kM))).both, (Blk.by hb2 (Blk.by hb1 (kD))).both, ⟨cell_by' hb2 (cell_by' hb1 (g1)), cell_by' hb2 (cell_by' hb1 (g2)), cell_by' hb2 (cell_by' hb1 (g3)), cell_by' hb2 (cell_by' hb1 (g4))⟩, cell_by' hb2 (cell_by' hb1 (u1)), below_on hb2 (below_on hb1 (hb.drew))⟩ | exact ⟨(Blk.by hb3 (Blk.by hb2 (Blk.by hb1 (kB)))).both, (Blk.by hb3 (Blk.by hb2 (Blk.by hb1 (kM)))).both, (Blk.by hb3 (Blk.by hb2 (Blk.by hb1 (kD)))).both, ⟨cell_by' hb3 (cell_by' hb2 (cell_by' hb1 (g1))), cell_by' hb3 (cell_by' hb2 (cell_by' hb1 (g2))), cell_by' hb3 (cell_by' hb2 (cell_by' hb1 (g3))), cell_by' hb3 (cell_by' hb2 (cell_by' hb1 (g4)))⟩, cell_by' hb3 (cell_by' hb2 (cell_by' hb1 (u1))), below_on hb3 (below_on hb2 (below_on hb1 (hb.drew)))⟩)
                      (first | (go_at_call 87; refine (HM1.out _ (HSX.out.by hb.drew) (HS.out.by hb.drew)).mono ?_; rintro e w1 ⟨v1, rfl, hO1, hb1⟩; have HO1 := Lib.hid hO1; obtain ⟨o1, c1', rfl⟩ := hO1.len; clear hO1) | (go_at_call 88; refine (HN2.out _ ((HSY.out.by hb.drew).by hb1)).mono ?_; rintro e w2 ⟨v2, rfl, hO2, hb2⟩; have HO2 := Lib.hid hO2.sl; obtain ⟨o2, c2', rfl⟩ := hO2.len; clear hO2) | (go_at_call 86; refine (HC.out _ _ _ (HO1.out.by hb2) HO2.out).mono ?_; rintro e w3 ⟨rfl, hb3⟩))
                    replace hb := below_on hb3 (below_on hb2 (below_on hb1 hb.drew))
                    go_wp2
                    go_ret
                    exact ⟨ret_bool hr.out.symm, hb⟩
                · obtain rfl : k = ds.length := by omega
                  have hr := Lib.hid (HRR.out.trans (HAY.out (fun j hj => HI.out j hj)))
                  go_wp2
                  go_ret
                  exact ⟨ret_bool hr.out.symm, (by ((repeat (first | (with_reducible exact Below.refl _ _) | (with_reducible refine below_drewN ?_ _) | (with_reducible refine Below.drew ?_) | (with_reducible refine below_al ?_ _) | (with_reducible refine below_on (by assumption) ?_) | ((with_reducible refine Below.setCell ?_ ?_ _); rotate_left; focus (first | omega | (simp; done) | (simp; omega))) | (with_reducible assumption))); done))⟩
end Go.Proofs.Ytaiadcfgmichpaa
