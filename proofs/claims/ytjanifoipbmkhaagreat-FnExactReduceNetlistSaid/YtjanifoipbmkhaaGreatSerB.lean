/- Devices in series: plain. -/
import Derived.Test.YtjanifoipbmkhaaGreatParB
import Derived.Test.YtjanifoipbmkhaaGreatDegB
namespace Go.Proofs.YtjanifoipbmkhaaGreat
open Go.RowKit

/-- A port is on a net. -/
def portB (ps : List Pt) (net : Int) : Bool := ps.any fun o => decide (o.net = net)
/-- A common net of the current pins, and whether there is just one, as the reference counts. -/
def comN (p q r s : Int) : Int := if q = r ∨ q = s then q else if p = r ∨ p = s then p else 0
def comC (p q r s : Int) : Int := (if p = r ∨ p = s then 1 else 0) + (if q = r ∨ q = s then 1 else 0)
/-- In series, up to the nets' use. -/
def preB (x y : Dv) : Bool :=
  decide (x.kind = y.kind) && (!parB x y && (!decide (curP x.pins = curQ x.pins) && (!decide (curP y.pins = curQ y.pins) && (decide (x.kind = 2) || (decide (gateOf x.pins = gateOf y.pins) && decide (x.wd = y.wd))))))
def serN (x y : Dv) : Int := comN (curP x.pins) (curQ x.pins) (curP y.pins) (curQ y.pins)
def oneB (x y : Dv) : Bool := decide (comC (curP x.pins) (curQ x.pins) (curP y.pins) (curQ y.pins) = 1)
def useB (n : Nl) (net : Int) : Bool := decide (degN n.ds net = 2) && !portB n.ps net
/-- In series. -/
def serB (n : Nl) (x y : Dv) : Bool := preB x y && (oneB x y && useB n (serN x y))

theorem serB_pre {n : Nl} {x y : Dv} (h : preB x y = false) : serB n x y = false := by simp [serB, h]
theorem serB_one {n : Nl} {x y : Dv} (h : oneB x y = false) : serB n x y = false := by simp [serB, h]
theorem serB_use {n : Nl} {x y : Dv} (h : preB x y = true) (h' : oneB x y = true) : serB n x y = useB n (serN x y) := by simp [serB, h, h']
theorem portB_no {ps : List Pt} {net : Int} (h : ∀ (j : Nat) o, j < ps.length → ps[j]? = some o → o.net ≠ net) : portB ps net = false := by
  unfold portB; rw [List.any_eq_false]; intro o ho
  obtain ⟨j, hj, e⟩ := List.mem_iff_getElem.1 ho
  simp [h j o hj (by rw [List.getElem?_eq_getElem hj, e])]
theorem portB_yes {ps : List Pt} {net : Int} {j : Nat} {o : Pt} (h : ps[j]? = some o) (h' : o.net = net) : portB ps net = true := by
  unfold portB; rw [List.any_eq_true]; exact ⟨o, List.mem_of_getElem? h, by simp [h']⟩
end Go.Proofs.YtjanifoipbmkhaaGreat

/- Devices in series: contracts of the reference's helpers. -/
namespace Go.Proofs.YtjanifoipbmkhaaGreat
open Go.RowKit
set_option linter.unusedVariables false
set_option linter.unusedSimpArgs false

set_option maxRecDepth 100000 in
set_option maxHeartbeats 1000000 in
theorem l27Port_any (x : Nl) (v : Value) (net : Int) (w : World) (h : NlV w v x) (hl : x.ps.length ≤ 1048576) :
    Calls Tryz.prog 49 #[v, .int .i64 net] w fun e w' => e = .returned (.bool (portB x.ps net)) ∧ Below w.heap.size w w' := by
  obtain ⟨s1, s2, rfl, hd, hp⟩ := h
  obtain ⟨nets, ds, ps⟩ := x
  dsimp only at hd hp hl ⊢
  have HN := Lib.hid (@portB_no ps net)
  have HY := Lib.hid (fun j o => @portB_yes ps net j o)
  have HP := Lib.hid hp
  generalize portB ps net = r at *
  obtain ⟨a1, c1, rfl⟩ := hd.sized
  obtain ⟨a2, c2, rfl⟩ := hp.sized
  clear hd hp
  go_enter Tryz.func49, Tryz.ntmps49
  go_wp2
  go_loop [5] (fun i => ∃ k : Nat, k ≤ ps.length ∧ i = .int .i64 k ∧ Hid (∀ (j : Nat) (o : Pt), j < k → ps[j]? = some o → o.net ≠ net)) (fun i => ps.length - (intOf i).toNat)
  case atStart => exact ⟨0, Nat.zero_le _, rfl, Lib.hid (by intro j o h; omega)⟩
  case round =>
    obtain ⟨k, hk, rfl, HI⟩ := hrel
    by_cases hlt : k < ps.length
    · obtain ⟨x, hx⟩ : ∃ x, ps[k]? = some x := ⟨ps[k], List.getElem?_eq_getElem hlt⟩
      have HPS := HP.out
      rcases HPS with ⟨_, _, _, h2⟩ | ⟨b, off, cap, he, h2, h3, h4⟩
      · rw [h2] at hlt; simp at hlt
      obtain ⟨rfl, rfl⟩ : a2 = some ⟨b, off, none⟩ ∧ c2 = cap := by simpa using he
      obtain ⟨p1, p2⟩ := h4 k x hx
      have lP := lt_of_cell p1
      dsimp only at lP
      have HX := Lib.hid hx
      have i1 : (0 : Int) ≤ (k : Int) := by omega
      have i2 : (k : Int) < (ps.length : Int) := by omega
      clear h4 hx he
      by_cases hq : x.net = net
      · have hr := Lib.hid (HY.out k x HX.out hq)
        have hq' : (x.net == net) = true := by simpa using hq
        clear hq
        go_wp2
        go_ret
        exact ⟨ret_bool hr.out.symm, (by ((repeat (first | (with_reducible exact Below.refl _ _) | (with_reducible refine below_drewN ?_ _) | (with_reducible refine Below.drew ?_) | (with_reducible refine below_al ?_ _) | (with_reducible refine below_on (by assumption) ?_) | ((with_reducible refine Below.setCell ?_ ?_ _); rotate_left; focus (first | omega | (simp; done) | (simp; omega))) | (with_reducible assumption))); done))⟩
      · have HQ := Lib.hid hq
        have hq' : (x.net == net) = false := by simpa using hq
        clear hq
        go_wp2
        go_round
        case rel => exact ⟨k + 1, by omega, by go_num, Lib.hid (fun j o hj ho => by
          by_cases e : j = k
          · subst e; obtain rfl : o = x := Option.some.inj (ho.symm.trans HX.out); exact HQ.out
          · exact HI.out j o (by omega) ho)⟩
        case measure => simp [intOf]; omega
    · obtain rfl : k = ps.length := by omega
      have hr := Lib.hid (HN.out (fun j o hj ho => HI.out j o hj ho))
      go_wp2
      go_ret
      exact ⟨ret_bool hr.out.symm, (by ((repeat (first | (with_reducible exact Below.refl _ _) | (with_reducible refine below_drewN ?_ _) | (with_reducible refine Below.drew ?_) | (with_reducible refine below_al ?_ _) | (with_reducible refine below_on (by assumption) ?_) | ((with_reducible refine Below.setCell ?_ ?_ _); rotate_left; focus (first | omega | (simp; done) | (simp; omega))) | (with_reducible assumption))); done))⟩

set_option maxRecDepth 100000 in
set_option maxHeartbeats 1000000 in
theorem l28Shorted_any (x : Dv) (sv : Value) (w : World) (h : IntSl w sv x.pins) (hs : Shp x) :
    Calls Tryz.prog 41 #[.agg #[.int .i64 x.kind, sv, .int .i64 x.wd, .int .i64 x.len]] w fun e w' => e = .returned (.bool (decide (curP x.pins = curQ x.pins))) ∧ Below w.heap.size w w' := by
  obtain ⟨kind, pins, wd, len⟩ := x
  dsimp only at h ⊢
  rcases hs with ⟨hkk, p, q, hp⟩ | ⟨hkk, g, p, q, hp⟩
  · dsimp only at hp; subst hp; clear hkk
    obtain ⟨b, off, cap, rfl, c0, c1, hb⟩ := h.two
    have HF := Lib.hid (fun w => l28First_any kind wd len (some ⟨b, off, none⟩) 0 cap (by omega) w)
    have HH := Lib.hid h
    clear h
    simp only [curP, curQ]
    go_enter Tryz.func41, Tryz.ntmps41
    go_wp2_with fail
    refine (HF.out _).mono ?_
    rintro e w1 ⟨rfl, hb1⟩
    have k0 : Blk w1 w.heap.size #[.int .i64 kind, .slice (some ⟨b, off, none⟩) 2 cap, .int .i64 wd, .int .i64 len] 46 := (by ((repeat (first | (with_reducible assumption) | (with_reducible refine Blk.drewN ?_ _) | (with_reducible refine Blk.drew ?_) | ((with_reducible refine Blk.new _ ?_); focus (first | omega | (simp; done) | (simp; omega))) | (with_reducible refine Blk.past ?_ _) | ((with_reducible refine Blk.apart ?_ _ _ _ ?_); rotate_left; focus (first | omega | (simp; done) | (simp; omega))) | (with_reducible refine Blk.by (by assumption) ?_))); done))
    have hW : Below w.heap.size w w1 := (by ((repeat (first | (with_reducible exact Below.refl _ _) | (with_reducible refine below_drewN ?_ _) | (with_reducible refine Below.drew ?_) | (with_reducible refine below_al ?_ _) | (with_reducible refine below_on (by assumption) ?_) | ((with_reducible refine Below.setCell ?_ ?_ _); rotate_left; focus (first | omega | (simp; done) | (simp; omega))) | (with_reducible assumption))); done))
    have e0 := cell_by' hW c0
    have e1 := cell_by' hW c1
    have kc := k0.cell
    clear hb1
    go_wp2
    go_quiet (fail)
    go_wp2
    go_ret
    exact ⟨ret_bool (by rw [Bool.eq_iff_iff]; simp; exact decide_eq_true_iff.symm), (by ((repeat (first | (with_reducible exact Below.refl _ _) | (with_reducible refine below_drewN ?_ _) | (with_reducible refine Below.drew ?_) | (with_reducible refine below_al ?_ _) | (with_reducible refine below_on (by assumption) ?_) | ((with_reducible refine Below.setCell ?_ ?_ _); rotate_left; focus (first | omega | (simp; done) | (simp; omega))) | (with_reducible assumption))); done))⟩
  · dsimp only at hp; subst hp; clear hkk
    obtain ⟨b, off, cap, rfl, c0, c1, c2, hb⟩ := h.three
    have HF := Lib.hid (fun w => l28First_any kind wd len (some ⟨b, off, none⟩) 1 cap (by omega) w)
    clear h
    simp only [curP, curQ]
    go_enter Tryz.func41, Tryz.ntmps41
    go_wp2_with fail
    refine (HF.out _).mono ?_
    rintro e w1 ⟨rfl, hb1⟩
    have k0 : Blk w1 w.heap.size #[.int .i64 kind, .slice (some ⟨b, off, none⟩) 3 cap, .int .i64 wd, .int .i64 len] 46 := (by ((repeat (first | (with_reducible assumption) | (with_reducible refine Blk.drewN ?_ _) | (with_reducible refine Blk.drew ?_) | ((with_reducible refine Blk.new _ ?_); focus (first | omega | (simp; done) | (simp; omega))) | (with_reducible refine Blk.past ?_ _) | ((with_reducible refine Blk.apart ?_ _ _ _ ?_); rotate_left; focus (first | omega | (simp; done) | (simp; omega))) | (with_reducible refine Blk.by (by assumption) ?_))); done))
    have hW : Below w.heap.size w w1 := (by ((repeat (first | (with_reducible exact Below.refl _ _) | (with_reducible refine below_drewN ?_ _) | (with_reducible refine Below.drew ?_) | (with_reducible refine below_al ?_ _) | (with_reducible refine below_on (by assumption) ?_) | ((with_reducible refine Below.setCell ?_ ?_ _); rotate_left; focus (first | omega | (simp; done) | (simp; omega))) | (with_reducible assumption))); done))
    have e0 := cell_by' hW c0
    have e1 := cell_by' hW c1
    have e2 := cell_by' hW c2
    have kc := k0.cell
    clear hb1
    go_wp2
    go_quiet (fail)
    go_wp2
    go_ret
    exact ⟨ret_bool (by rw [Bool.eq_iff_iff]; simp; exact decide_eq_true_iff.symm), (by ((repeat (first | (with_reducible exact Below.refl _ _) | (with_reducible refine below_drewN ?_ _) | (with_reducible refine Below.drew ?_) | (with_reducible refine below_al ?_ _) | (with_reducible refine below_on (by assumption) ?_) | ((with_reducible refine Below.setCell ?_ ?_ _); rotate_left; focus (first | omega | (simp; done) | (simp; omega))) | (with_reducible assumption))); done))⟩
end Go.Proofs.YtjanifoipbmkhaaGreat
