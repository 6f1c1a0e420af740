/- The program's SortDevices. -/
import Derived.Test.YtpiiccfjkgimfaaSrtE
import Derived.Test.YtpiiccfjkgimfaaCopies
import Derived.Test.YtpiiccfjkgimfaaImplNl
namespace Go.Proofs.Ytpiiccfjkgimfaa
open Go.RowKit
set_option linter.unusedVariables false
set_option linter.unusedSimpArgs false

/-- A netlist with its devices in order. -/
def sortS (x : Nl) : Nl := ⟨x.nets, srtD x.ds, x.ps⟩
def soS (x : Nl) : Nl := if nlB x = true then sortS x else ⟨0, [], []⟩
theorem soS_no {x : Nl} (h : nlB x = false) : soS x = ⟨0, [], []⟩ := by simp [soS, h]
theorem soS_yes {x : Nl} (h : nlB x = true) : soS x = sortS x := by simp [soS, h]

theorem ownNl_nil (w : World) (lo hi : Nat) (h : lo ≤ hi) : OwnNl w lo hi (.agg #[.int .i64 0, .slice none 0 0, .slice none 0 0]) ⟨0, [], []⟩ :=
  ⟨_, _, lo, hi, hi, hi, rfl, .inl ⟨_, _, rfl, rfl⟩, .inl ⟨_, _, rfl, rfl⟩, ⟨Nat.le_refl _, Nat.le_refl _⟩, ⟨h, Nat.le_refl _⟩, .inl (Nat.le_refl _)⟩
theorem dcmp_impl : DCmp 59 #[] := fun W x y sx sy hx hy => compareDevices_any x.kind x.wd x.len y.kind y.wd y.len sx sy x.pins y.pins W hx hy

set_option maxRecDepth 100000 in
set_option maxHeartbeats 4000000 in
theorem implSorted_any (x : Nl) (v : Value) (w : World) (h : NlV w v x) (hl : x.ds.length < 40) (hpl : x.ps.length ≤ 1048576) (hpn : ∀ d ∈ x.ds, d.pins.length ≤ 1048576 ∧ d.pins ≠ []) :
    Calls Try.prog 54 #[v] w fun e w' => ∃ v', e = .returned v' ∧ OwnNl w' w.heap.size w'.heap.size v' (sortS x) ∧ Below w.heap.size w w' := by
  have HN := Lib.hid h
  have HCP := Lib.hid (fun v w h => copyNetlist_any x v w h (by omega) hpl hpn)
  have HDL := Lib.hid (fun lo hi sv w (h : OwnDs w lo hi sv x.ds) => sortStableD_any 59 #[] (fun _ _ => rfl) dcmp_impl lo hi sv x.ds w h hl)
  obtain ⟨a, c, a', c', rfl⟩ := h.sized
  obtain ⟨nets, ds, ps⟩ := x
  dsimp only [sortS] at HN HCP HDL hl hpl ⊢
  have hsl : (srtD ds).length = ds.length := length_srtD ds
  have HSL := Lib.hid hsl
  clear h hpn hsl
  go_enter Try.func54, Try.ntmps54
  go_wp2_with fail
  refine (HCP.out _ _ (HN.out.by (by ((repeat (first | (with_reducible exact Below.refl _ _) | (with_reducible refine below_drewN ?_ _) | (with_reducible refine Below.drew ?_) | (with_reducible refine below_al ?_ _) | (with_reducible refine below_on (by assumption) ?_) | ((with_reducible refine Below.setCell ?_ ?_ _); rotate_left; focus (first | omega | (simp; done) | (simp; omega))) | (with_reducible assumption))); done)))).mono ?_
  rintro e w2 ⟨v2, rfl, hO, hb2⟩
  obtain ⟨s1, s2, lo1, hi1, lo2, hi2, rfl, hOD, hOP, hi1', hi2', hap⟩ := hO
  have k1 : Blk w2 (w.heap.size + 1) #[.int .i64 0, .slice none 0 0, .slice none 0 0] 48 := (by ((repeat (first | (with_reducible assumption) | (with_reducible refine Blk.drewN ?_ _) | (with_reducible refine Blk.drew ?_) | ((with_reducible refine Blk.new _ ?_); focus (first | omega | (simp; done) | (simp; omega))) | (with_reducible refine Blk.past ?_ _) | ((with_reducible refine Blk.apart ?_ _ _ _ ?_); rotate_left; focus (first | omega | (simp; done) | (simp; omega))) | (with_reducible refine Blk.by (by assumption) ?_))); done))
  have hB2 : Below w.heap.size w w2 := (by ((repeat (first | (with_reducible exact Below.refl _ _) | (with_reducible refine below_drewN ?_ _) | (with_reducible refine Below.drew ?_) | (with_reducible refine below_al ?_ _) | (with_reducible refine below_on (by assumption) ?_) | ((with_reducible refine Below.setCell ?_ ?_ _); rotate_left; focus (first | omega | (simp; done) | (simp; omega))) | (with_reducible assumption))); done))
  have hsz2 := hb2.size
  simp only [World.size_alloc] at hsz2 hi1' hi2'
  obtain ⟨a1, c1, rfl⟩ := hOD.sl.sized
  obtain ⟨a2, c2, rfl⟩ := hOP.sl.sized
  dsimp only at hOD hOP
  have HOD := Lib.hid hOD
  have HOP := Lib.hid hOP
  clear hb2 hOD hOP HN HCP
  have c1' := k1.cell
  have l1 := k1.lt
  go_wp2_with (go_at_call 98; refine (HDL.out lo1 hi1 _ _ (HOD.out.by (by ((repeat (first | (with_reducible exact Below.refl _ _) | (with_reducible refine below_drewN ?_ _) | (with_reducible refine Below.drew ?_) | (with_reducible refine below_al ?_ _) | (with_reducible refine below_on (by assumption) ?_) | ((with_reducible refine Below.setCell ?_ ?_ _); rotate_left; focus (first | omega | (simp; done) | (simp; omega))) | (with_reducible assumption))); done)))).mono ?_; rintro e w3 ⟨rfl, hO3, hw3⟩; have k3 : Blk w3 w2.heap.size #[.int .i64 nets, .slice a1 ds.length c1, .slice a2 ps.length c2] 48 := hw3.blk (Blk.new _ rfl) (by omega); have k1' := hw3.blk (k1.past _) (by omega); have c3' := k3.cell; have f3' := k3.free; have c1'' := k1'.cell; have f1'' := k1'.free; have hne : ¬ w2.heap.size = w.heap.size + 1 := (by omega))
  have hsz3 := hw3.size
  simp only [World.size_alloc] at hsz3
  have hB3 : Below w.heap.size w w3 := hw3.below (below_al hB2 (.cells #[.int .i64 nets, .slice a1 ds.length c1, .slice a2 ps.length c2] 48)) (by omega)
  have hOP3 := (HOP.out.by ((Below.refl _ w2).alloc (Nat.le_refl _) (.cells #[.int .i64 nets, .slice a1 ds.length c1, .slice a2 ps.length c2] 48))).past hw3 (by omega)
  refine bodyPost_ret (v := .agg #[.int .i64 nets, .slice a1 ds.length c1, .slice a2 ps.length c2]) (by simp [results, Try.results54, go_sem, *]) rfl ⟨_, rfl, ⟨_, _, lo1, hi1, lo2, hi2, rfl, ?_, ?_, ⟨by omega, by simp; omega⟩, ⟨by omega, by simp; omega⟩, hap⟩, ?_⟩
  · exact (((hO3.past (Within.off _) (by omega)).past (Within.off _) (by omega)).past (Within.off _) (by omega))
  · exact (((hOP3.past (Within.off _) (by omega)).past (Within.off _) (by omega)).past (Within.off _) (by omega))
  · repeat (first | (with_reducible exact hB3) | ((with_reducible refine Below.setCell ?_ ?_ _); rotate_left; focus (simp; try omega)))

set_option maxRecDepth 100000 in
set_option maxHeartbeats 4000000 in
theorem implSort_any (x : Nl) (v : Value) (w : World) (h : NlV w v x) (hok : ∀ p ∈ x.ps, p.ok) (hnn : Fits x.nets) :
    Calls Try.prog 25 #[v] w fun e w' => ∃ v', e = .returned v' ∧ OwnNl w' w.heap.size w'.heap.size v' (soS x) ∧ Below w.heap.size w w' := by
  have HV := Lib.hid (fun v w h => implNl_any x v w h hok hnn)
  have HN := Lib.hid h
  cases hv : nlB x with
  | false =>
    rw [soS_no hv]
    rw [hv] at HV
    obtain ⟨a, c, a', c', rfl⟩ := h.sized
    clear h hok hv
    go_enter Try.func25, Try.ntmps25
    go_wp2_with (go_at_call 53; refine (HV.out _ _ (HN.out.by (by ((repeat (first | (with_reducible exact Below.refl _ _) | (with_reducible refine below_drewN ?_ _) | (with_reducible refine Below.drew ?_) | (with_reducible refine below_al ?_ _) | (with_reducible refine below_on (by assumption) ?_) | ((with_reducible refine Below.setCell ?_ ?_ _); rotate_left; focus (first | omega | (simp; done) | (simp; omega))) | (with_reducible assumption))); done)))).mono ?_; rintro e w1 ⟨rfl, hb1⟩; have k1 : Blk w1 (w.heap.size + 1) #[.int .i64 0, .slice none 0 0, .slice none 0 0] 48 := (by ((repeat (first | (with_reducible assumption) | (with_reducible refine Blk.drewN ?_ _) | (with_reducible refine Blk.drew ?_) | ((with_reducible refine Blk.new _ ?_); focus (first | omega | (simp; done) | (simp; omega))) | (with_reducible refine Blk.past ?_ _) | ((with_reducible refine Blk.apart ?_ _ _ _ ?_); rotate_left; focus (first | omega | (simp; done) | (simp; omega))) | (with_reducible refine Blk.by (by assumption) ?_))); done)); have f1 := k1.free; have c1 := k1.cell; have l1 := k1.lt)
    exact bodyPost_ret (v := .agg #[.int .i64 0, .slice none 0 0, .slice none 0 0]) (by simp [results, Try.results25, go_sem, *]) rfl ⟨_, rfl, ownNl_nil _ _ _ (by simp; omega), (by ((repeat (first | (with_reducible exact Below.refl _ _) | (with_reducible refine below_drewN ?_ _) | (with_reducible refine Below.drew ?_) | (with_reducible refine below_al ?_ _) | (with_reducible refine below_on (by assumption) ?_) | ((with_reducible refine Below.setCell ?_ ?_ _); rotate_left; focus (first | omega | (simp; done) | (simp; omega))) | (with_reducible assumption))); done))⟩
  | true =>
    rw [soS_yes hv]
    rw [hv] at HV
    obtain ⟨_, hl24, hp8, hdv, _⟩ := nlB_facts hv
    have HCP := Lib.hid (fun v w h => implSorted_any x v w h (by omega) (by omega) (fun d hd => by have h1 := (dvB_pins (hdv d hd)).1; have h2 := (dvB_pins (hdv d hd)).2.1; exact ⟨by omega, fun e => by rw [e] at h2; simp at h2⟩))
    obtain ⟨a, c, a', c', rfl⟩ := h.sized
    obtain ⟨nets, ds, ps⟩ := x
    dsimp only at HN HV HCP ⊢
    clear h hok hv hdv
    go_enter Try.func25, Try.ntmps25
    go_wp2_with fail
    refine (HV.out _ _ (HN.out.by (by ((repeat (first | (with_reducible exact Below.refl _ _) | (with_reducible refine below_drewN ?_ _) | (with_reducible refine Below.drew ?_) | (with_reducible refine below_al ?_ _) | (with_reducible refine below_on (by assumption) ?_) | ((with_reducible refine Below.setCell ?_ ?_ _); rotate_left; focus (first | omega | (simp; done) | (simp; omega))) | (with_reducible assumption))); done)))).mono ?_
    rintro e w1 ⟨rfl, hb1⟩
    have k0 : Blk w1 w.heap.size #[.int .i64 nets, .slice a ds.length c, .slice a' ps.length c'] 48 := (by ((repeat (first | (with_reducible assumption) | (with_reducible refine Blk.drewN ?_ _) | (with_reducible refine Blk.drew ?_) | ((with_reducible refine Blk.new _ ?_); focus (first | omega | (simp; done) | (simp; omega))) | (with_reducible refine Blk.past ?_ _) | ((with_reducible refine Blk.apart ?_ _ _ _ ?_); rotate_left; focus (first | omega | (simp; done) | (simp; omega))) | (with_reducible refine Blk.by (by assumption) ?_))); done))
    have k1 : Blk w1 (w.heap.size + 1) #[.int .i64 0, .slice none 0 0, .slice none 0 0] 48 := (by ((repeat (first | (with_reducible assumption) | (with_reducible refine Blk.drewN ?_ _) | (with_reducible refine Blk.drew ?_) | ((with_reducible refine Blk.new _ ?_); focus (first | omega | (simp; done) | (simp; omega))) | (with_reducible refine Blk.past ?_ _) | ((with_reducible refine Blk.apart ?_ _ _ _ ?_); rotate_left; focus (first | omega | (simp; done) | (simp; omega))) | (with_reducible refine Blk.by (by assumption) ?_))); done))
    have hB1 : Below w.heap.size w w1 := (by ((repeat (first | (with_reducible exact Below.refl _ _) | (with_reducible refine below_drewN ?_ _) | (with_reducible refine Below.drew ?_) | (with_reducible refine below_al ?_ _) | (with_reducible refine below_on (by assumption) ?_) | ((with_reducible refine Below.setCell ?_ ?_ _); rotate_left; focus (first | omega | (simp; done) | (simp; omega))) | (with_reducible assumption))); done))
    have l1 := k1.lt
    have c0 := k0.cell
    clear hb1
    go_wp2_with fail
    refine (HCP.out _ _ (HN.out.by hB1)).mono ?_
    rintro e w2 ⟨v2, rfl, hO, hb2⟩
    have hB2 := below_on hb2 hB1
    have k2 := Blk.by hb2 k1
    have f2 := k2.free
    have c2 := k2.cell
    have l2 := k2.lt
    have hsz2 := hb2.size
    have HO := Lib.hid hO
    obtain ⟨s1, s2, lo1, hi1, lo2, hi2, rfl, hOD, hOP, _⟩ := hO
    obtain ⟨a1, c1, rfl⟩ := hOD.sl.sized
    obtain ⟨a2, c3, rfl⟩ := hOP.sl.sized
    clear c0 k0 hOD hOP
    go_wp2
    refine bodyPost_ret (v := .agg #[.int .i64 nets, .slice a1 (sortS ⟨nets, ds, ps⟩).ds.length c1, .slice a2 (sortS ⟨nets, ds, ps⟩).ps.length c3]) (by simp [results, Try.results25, sortS, go_sem, *]) rfl ⟨_, rfl, ?_, ?_⟩
    · exact ((((HO.out.past (Within.off _) (by omega)).past (Within.off _) (by omega)).past (Within.off _) (by omega)).wide (by omega) (by simp))
    · repeat (first | (with_reducible exact hB2) | ((with_reducible refine Below.setCell ?_ ?_ _); rotate_left; focus (simp; try omega)))
end Go.Proofs.Ytpiiccfjkgimfaa
