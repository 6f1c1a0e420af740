/- Contracts of l27Degree and degrees. -/
import Derived.Test.YtdljbmfmmlcmmaaValid0
import Derived.Test.YtdljbmfmmlcmmaaImplNl
import Derived.Test.YtdljbmfmmlcmmaaCmps
namespace Go.Proofs.Ytdljbmfmmlcmmaa
open Go.RowKit
set_option linter.unusedVariables false
set_option linter.unusedSimpArgs false

end Go.Proofs.Ytdljbmfmmlcmmaa

/- Contract of degrees. -/
namespace Go.Proofs.Ytdljbmfmmlcmmaa
open Go.RowKit
set_option linter.unusedVariables false
set_option linter.unusedSimpArgs false

set_option maxRecDepth 100000 in
set_option maxHeartbeats 2000000 in
theorem degrees_any (x : Nl) (n : Nat) (v : Value) (w : World) (h : NlV w v x) (hn : x.nets = (n : Int)) (hn24 : n ≤ 24) (hl : x.ds.length ≤ 24) (hp3 : ∀ d ∈ x.ds, d.pins.length ≤ 3) (hin : ∀ d ∈ x.ds, ∀ p ∈ d.pins, 0 ≤ p ∧ p < x.nets) :
    Calls Try.prog 28 #[v] w fun e w' => ∃ g, e = .returned (.slice (some ⟨g, 0, none⟩) n n) ∧ IBlk w' g (degs n x.ds) ∧ w.heap.size ≤ g ∧ Below w.heap.size w w' := by
  obtain ⟨s1, s2, rfl, hd, hp⟩ := h
  obtain ⟨nets, ds, ps⟩ := x
  dsimp only at hd hp hl hp3 hin hn ⊢
  subst hn
  have HD := Lib.hid hd
  have H3 := Lib.hid hp3
  have HIN := Lib.hid hin
  have HS := Lib.hid (fun k d h => degN_take ds k d h)
  have HL := Lib.hid (fun k net => degN_take_le ds k net hl hp3)
  clear hp3 hin
  obtain ⟨a1, c1, rfl⟩ := hd.sized
  obtain ⟨a2, c2, rfl⟩ := hp.sized
  clear hd hp
  obtain ⟨cs0, hcs0, hz0, hmk⟩ := make_ints n (by omega) (w.alloc (.cells #[.int .i64 (n : Int), .slice a1 ds.length c1, .slice a2 ps.length c2] 27))
  simp only [World.size_alloc] at hmk
  go_enter Try.func28, Try.ntmps28
  go_wp2
  clear hmk
  go_loopw [14] (fun i wr => ∃ k : Nat, k ≤ ds.length ∧ i = .int .i64 k ∧ (∃ cs : Array Value, Blk wr (w.heap.size + 1) cs 2 ∧ cs.size = n ∧ ∀ j, j < n → cs[j]? = some (Value.int .i64 (degN (ds.take k) (j : Int) : Nat))) ∧ Below w.heap.size w wr) (fun i _ => ds.length - (intOf i).toNat)
  case atStart => exact ⟨0, Nat.zero_le _, rfl, ⟨cs0, (by ((repeat (first | (with_reducible assumption) | (with_reducible refine Blk.drewN ?_ _) | (with_reducible refine Blk.drew ?_) | ((with_reducible refine Blk.new _ ?_); focus (first | omega | (simp; done) | (simp; omega))) | (with_reducible refine Blk.past ?_ _) | ((with_reducible refine Blk.apart ?_ _ _ _ ?_); rotate_left; focus (first | omega | (simp; done) | (simp; omega))) | (with_reducible refine Blk.by (by assumption) ?_))); done)), hcs0, fun j hj => by rw [hz0 j hj]; simp [degN]⟩, (by ((repeat (first | (with_reducible exact Below.refl _ _) | (with_reducible refine below_drewN ?_ _) | (with_reducible refine Below.drew ?_) | (with_reducible refine below_al ?_ _) | (with_reducible refine below_on (by assumption) ?_) | ((with_reducible refine Below.setCell ?_ ?_ _); rotate_left; focus (first | omega | (simp; done) | (simp; omega))) | (with_reducible assumption))); done))⟩
  case round =>
    obtain ⟨k, hk, rfl, ⟨cs, hB, hsz, hold⟩, hb⟩ := hrel
    have lg := hB.lt
    by_cases hlt : k < ds.length
    · obtain ⟨x, hx⟩ : ∃ x, ds[k]? = some x := ⟨ds[k], List.getElem?_eq_getElem hlt⟩
      have HDS := HD.out
      rcases HDS with ⟨_, _, _, h2⟩ | ⟨b, off, cap, he, h2, h3, h4⟩
      · rw [h2] at hlt; simp at hlt
      obtain ⟨rfl, rfl⟩ : a1 = some ⟨b, off, none⟩ ∧ c1 = cap := by simpa using he
      obtain ⟨sv, e1, e2, e3, e4, hS⟩ := h4 k x hx
      have d1 := cell_by' hb e1
      have d2 := cell_by' hb e2
      have d3 := cell_by' hb e3
      have d4 := cell_by' hb e4
      have lB := lt_of_cell d1
      dsimp only at lB
      have hx3 : x.pins.length ≤ 3 := H3.out x (List.mem_of_getElem? hx)
      have HXI := Lib.hid (HIN.out x (List.mem_of_getElem? hx))
      have HST := Lib.hid (HS.out k x hx)
      have HOLD := Lib.hid hold
      have HSZ := Lib.hid hsz
      have HI := Lib.hid hS
      obtain ⟨a', c', rfl⟩ := hS.len
      have i1 : (0 : Int) ≤ (k : Int) := by omega
      have i2 : (k : Int) < (ds.length : Int) := by omega
      clear h4 hx he hold hsz hS e1 e2 e3 e4 hcs0 hz0
      go_wp2
      go_loopw [21] (fun i wr2 => ∃ m : Nat, m ≤ x.pins.length ∧ i = .int .i64 m ∧ (∃ cs : Array Value, Blk wr2 (w.heap.size + 1) cs 2 ∧ cs.size = n ∧ ∀ j, j < n → cs[j]? = some (Value.int .i64 (degN (ds.take k) (j : Int) + (x.pins.take m).count (j : Int) : Nat))) ∧ Below w.heap.size w wr2) (fun i _ => x.pins.length - (intOf i).toNat)
      case atStart => exact ⟨0, Nat.zero_le _, rfl, ⟨cs, (by ((repeat (first | (with_reducible assumption) | (with_reducible refine Blk.drewN ?_ _) | (with_reducible refine Blk.drew ?_) | ((with_reducible refine Blk.new _ ?_); focus (first | omega | (simp; done) | (simp; omega))) | (with_reducible refine Blk.past ?_ _) | ((with_reducible refine Blk.apart ?_ _ _ _ ?_); rotate_left; focus (first | omega | (simp; done) | (simp; omega))) | (with_reducible refine Blk.by (by assumption) ?_))); done)), HSZ.out, fun j hj => by rw [HOLD.out j hj]; simp⟩, (by ((repeat (first | (with_reducible exact Below.refl _ _) | (with_reducible refine below_drewN ?_ _) | (with_reducible refine Below.drew ?_) | (with_reducible refine below_al ?_ _) | (with_reducible refine below_on (by assumption) ?_) | ((with_reducible refine Below.setCell ?_ ?_ _); rotate_left; focus (first | omega | (simp; done) | (simp; omega))) | (with_reducible assumption))); done))⟩
      case round =>
        clear hB
        obtain ⟨m, hm, rfl, ⟨cs, hB, hsz, hold⟩, hb2⟩ := hrel
        have HSZ := Lib.hid hsz
        have HOLD := Lib.hid hold
        clear hsz hold
        by_cases hlm : m < x.pins.length
        · obtain ⟨z, hz⟩ : ∃ z, x.pins[m]? = some z := ⟨x.pins[m], List.getElem?_eq_getElem hlm⟩
          have HIS := HI.out
          rcases HIS with ⟨_, _, _, e2⟩ | ⟨bp, op, cp, e1, e2, e3, e4⟩
          · rw [e2] at hlm; simp at hlm
          obtain ⟨rfl, rfl⟩ : a' = some ⟨bp, op, none⟩ ∧ c' = cp := by simpa using e1
          obtain ⟨hz0, hzn⟩ := HXI.out z (List.mem_of_getElem? hz)
          obtain ⟨q, rfl⟩ : ∃ q : Nat, z = (q : Int) := ⟨z.toNat, by omega⟩
          have cz := cell_by' hb2 (e4 m _ hz)
          have lZ := lt_of_cell cz
          dsimp only at lZ
          have hq : q < n := by omega
          have HCT := Lib.hid (fun net => count_take x.pins m _ hz net)
          have hv := HL.out k (q : Int)
          have hv2 := count_take_le x.pins m (q : Int) hx3
          have d0 := HOLD.out q hq
          obtain ⟨v, hv'⟩ : ∃ v : Nat, degN (ds.take k) (q : Int) + (x.pins.take m).count (q : Int) = v := ⟨_, rfl⟩
          rw [hv'] at d0
          have hvl : v ≤ 75 := by omega
          have HV := Lib.hid hv'
          have j1 : (0 : Int) ≤ (m : Int) := by omega
          have j2 : (m : Int) < (x.pins.length : Int) := by omega
          have q1 : (0 : Int) ≤ (q : Int) := by omega
          have q2 : (q : Int) < (n : Int) := by omega
          have hBc := hB.cell
          have hBf := hB.free
          clear e4 hz e1 hv'
          go_wp2
          refine ⟨⟨m + 1, by omega, by go_num, ⟨_, hB.set _ _, by simp [HSZ.out], ?_⟩, (by ((repeat (first | (with_reducible exact Below.refl _ _) | (with_reducible refine below_drewN ?_ _) | (with_reducible refine Below.drew ?_) | (with_reducible refine below_al ?_ _) | (with_reducible refine below_on (by assumption) ?_) | ((with_reducible refine Below.setCell ?_ ?_ _); rotate_left; focus (first | omega | (simp; done) | (simp; omega))) | (with_reducible assumption))); done))⟩, by simp [intOf]; omega⟩
          intro j hj
          rw [Array.getElem?_setIfInBounds]
          by_cases hjq : q = j
          · subst hjq
            rw [if_pos rfl, if_pos (by rw [HSZ.out]; exact hj), HCT.out, if_pos rfl]
            have := HV.out
            congr 2; omega
          · rw [if_neg hjq, HOLD.out j hj, HCT.out, if_neg (by omega)]; rfl
        · obtain rfl : m = x.pins.length := by omega
          go_wp2
          refine ⟨⟨k + 1, by omega, by go_num, ⟨cs, hB, HSZ.out, fun j hj => ?_⟩, hb2⟩, by simp [intOf]; omega⟩
          rw [HOLD.out j hj, List.take_length, HST.out]
    · obtain rfl : k = ds.length := by omega
      rw [List.take_length] at hold
      have HOLD := Lib.hid hold
      have HSZ := Lib.hid hsz
      clear hold hsz hcs0 hz0
      go_wp2
      go_ret
      refine ⟨w.heap.size + 1, rfl, ⟨cs, hB, by rw [HSZ.out, length_degs], fun i y hy => ?_⟩, by omega, hb⟩
      have hi : i < n := by have := (List.getElem?_eq_some_iff.1 hy).1; rwa [length_degs] at this
      rw [degs_get n ds i hi] at hy
      cases hy
      exact HOLD.out i hi
end Go.Proofs.Ytdljbmfmmlcmmaa

/- Devices in series: plain. -/
namespace Go.Proofs.Ytdljbmfmmlcmmaa
open Go.RowKit

/-- A port is on a net. -/
def portB (ps : List Pt) (net : Int) : Bool := ps.any fun o => decide (o.net = net)
/-- A common net of the current pins, and whether there is just one, as the reference counts. -/
def comN (p q r s : Int) : Int := if q = r ∨ q = s then q else if p = r ∨ p = s then p else 0
def comC (p q r s : Int) : Int := (if p = r ∨ p = s then 1 else 0) + (if q = r ∨ q = s then 1 else 0)
/-- In series, up to the nets' use. -/
def preB (x y : Dv) : Bool :=
  decide (x.kind = y.kind) && (!parB x y && (!decide (curP x.pins = curQ x.pins) && (!decide (curP y.pins = curQ y.pins) && (decide (x.kind = 2) || (decide (gateOf x.pins = gateOf y.pins) && decide (x.wd = y.wd))))))
def serN (x y : Dv) : Int := comN (curP x.pins) (curQ x.pins) (curP y.pins) (curQ y.pins)
def oneB (x y : Dv) : Bool := decide (comC (curP x.pins) (curQ x.pins) (curP y.pins) (curQ y.pins) = 1)
def useB (n : Nl) (net : Int) : Bool := decide (degN n.ds net = 2) && !portB n.ps net
/-- In series. -/
def serB (n : Nl) (x y : Dv) : Bool := preB x y && (oneB x y && useB n (serN x y))

theorem serB_pre {n : Nl} {x y : Dv} (h : preB x y = false) : serB n x y = false := by simp [serB, h]
theorem serB_one {n : Nl} {x y : Dv} (h : oneB x y = false) : serB n x y = false := by simp [serB, h]
theorem serB_use {n : Nl} {x y : Dv} (h : preB x y = true) (h' : oneB x y = true) : serB n x y = useB n (serN x y) := by simp [serB, h, h']
theorem portB_no {ps : List Pt} {net : Int} (h : ∀ (j : Nat) o, j < ps.length → ps[j]? = some o → o.net ≠ net) : portB ps net = false := by
  unfold portB; rw [List.any_eq_false]; intro o ho
  obtain ⟨j, hj, e⟩ := List.mem_iff_getElem.1 ho
  simp [h j o hj (by rw [List.getElem?_eq_getElem hj, e])]
theorem portB_yes {ps : List Pt} {net : Int} {j : Nat} {o : Pt} (h : ps[j]? = some o) (h' : o.net = net) : portB ps net = true := by
  unfold portB; rw [List.any_eq_true]; exact ⟨o, List.mem_of_getElem? h, by simp [h']⟩
end Go.Proofs.Ytdljbmfmmlcmmaa

/- Devices in series: contracts of the reference's helpers. -/
namespace Go.Proofs.Ytdljbmfmmlcmmaa
open Go.RowKit
set_option linter.unusedVariables false
set_option linter.unusedSimpArgs false

end Go.Proofs.Ytdljbmfmmlcmmaa
