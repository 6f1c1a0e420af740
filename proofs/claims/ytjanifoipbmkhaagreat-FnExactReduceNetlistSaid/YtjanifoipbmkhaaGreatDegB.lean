/- Contracts of l27Degree and degrees. -/
import Derived.Test.YtjanifoipbmkhaaGreatValid0
import Derived.Test.YtjanifoipbmkhaaGreatImplNl
namespace Go.Proofs.YtjanifoipbmkhaaGreat
open Go.RowKit
set_option linter.unusedVariables false
set_option linter.unusedSimpArgs false

set_option maxRecDepth 100000 in
set_option maxHeartbeats 2000000 in
theorem l27Degree_any (x : Nl) (v : Value) (net : Int) (w : World) (h : NlV w v x) (hl : x.ds.length ≤ 24) (hp3 : ∀ d ∈ x.ds, d.pins.length ≤ 3) :
    Calls Tryz.prog 48 #[v, .int .i64 net] w fun e w' => e = .returned (.int .i64 (degN x.ds net : Nat)) ∧ Below w.heap.size w w' := by
  obtain ⟨s1, s2, rfl, hd, hp⟩ := h
  obtain ⟨nets, ds, ps⟩ := x
  dsimp only at hd hp hl hp3 ⊢
  have HD := Lib.hid hd
  have H3 := Lib.hid hp3
  have HS := Lib.hid (fun k d h => degN_take ds k d h net)
  have HL := Lib.hid (fun k => degN_take_le ds k net hl hp3)
  have HF := Lib.hid (show degN (ds.take ds.length) net = degN ds net by rw [List.take_length])
  have H0 := Lib.hid (show degN (ds.take 0) net = 0 by simp [degN])
  obtain ⟨f, hf⟩ : ∃ f : Nat → Nat, (fun k => degN (ds.take k) net) = f := ⟨_, rfl⟩
  have hfe : ∀ k, degN (ds.take k) net = f k := fun k => by rw [← hf]
  generalize degN ds net = r at *
  simp only [hfe] at HS HL HF H0
  clear hf hfe hp3
  obtain ⟨a1, c1, rfl⟩ := hd.sized
  obtain ⟨a2, c2, rfl⟩ := hp.sized
  clear hd hp
  go_enter Tryz.func48, Tryz.ntmps48
  go_wp2
  go_loop [5, 6] (fun c i => ∃ k : Nat, k ≤ ds.length ∧ i = .int .i64 k ∧ c = .int .i64 (f k : Nat)) (fun _ i => ds.length - (intOf i).toNat)
  case atStart => exact ⟨0, Nat.zero_le _, rfl, by rw [H0.out]; rfl⟩
  case round =>
    obtain ⟨k, hk, rfl, rfl⟩ := hrel
    by_cases hlt : k < ds.length
    · obtain ⟨x, hx⟩ : ∃ x, ds[k]? = some x := ⟨ds[k], List.getElem?_eq_getElem hlt⟩
      have HDS := HD.out
      rcases HDS with ⟨_, _, _, h2⟩ | ⟨b, off, cap, he, h2, h3, h4⟩
      · rw [h2] at hlt; simp at hlt
      obtain ⟨rfl, rfl⟩ : a1 = some ⟨b, off, none⟩ ∧ c1 = cap := by simpa using he
      obtain ⟨sv, d1, d2, d3, d4, hS⟩ := h4 k x hx
      have lB := lt_of_cell d1
      dsimp only at lB
      have hx3 : x.pins.length ≤ 3 := H3.out x (List.mem_of_getElem? hx)
      have HC := Lib.hid (fun j z h => count_take x.pins j z h net)
      have HCL := Lib.hid (fun j => count_take_le x.pins j net hx3)
      have HST := Lib.hid (HS.out k x hx)
      have HCF := Lib.hid (show (x.pins.take x.pins.length).count net = x.pins.count net by rw [List.take_length])
      have HC0 := Lib.hid (show (x.pins.take 0).count net = 0 by simp)
      obtain ⟨g, hg⟩ : ∃ g : Nat → Nat, (fun j => (x.pins.take j).count net) = g := ⟨_, rfl⟩
      have hge : ∀ j, (x.pins.take j).count net = g j := fun j => by rw [← hg]
      simp only [hge] at HC HCL HCF HC0
      generalize x.pins.count net = q at *
      have hfk := HL.out k
      clear hg hge h4 hx he
      have HI := Lib.hid hS
      obtain ⟨a', c', rfl⟩ := hS.len
      have i1 : (0 : Int) ≤ (k : Int) := by omega
      have i2 : (k : Int) < (ds.length : Int) := by omega
      clear hS
      go_wp2
      go_loop [5, 7] (fun c j => ∃ m : Nat, m ≤ x.pins.length ∧ j = .int .i64 m ∧ c = .int .i64 (f k + g m : Nat)) (fun _ j => x.pins.length - (intOf j).toNat)
      case atStart => exact ⟨0, Nat.zero_le _, rfl, by rw [HC0.out]; rfl⟩
      case round =>
        obtain ⟨m, hm, rfl, rfl⟩ := hrel
        have hgm := HCL.out m
        by_cases hlm : m < x.pins.length
        · obtain ⟨z, hz⟩ : ∃ z, x.pins[m]? = some z := ⟨x.pins[m], List.getElem?_eq_getElem hlm⟩
          have HIS := HI.out
          rcases HIS with ⟨_, _, _, e2⟩ | ⟨bp, op, cp, e1, e2, e3, e4⟩
          · rw [e2] at hlm; simp at hlm
          obtain ⟨rfl, rfl⟩ : a' = some ⟨bp, op, none⟩ ∧ c' = cp := by simpa using e1
          have cz := e4 m z hz
          have lZ := lt_of_cell cz
          dsimp only at lZ
          have HZ := Lib.hid (HC.out m z hz)
          have j1 : (0 : Int) ≤ (m : Int) := by omega
          have j2 : (m : Int) < (x.pins.length : Int) := by omega
          clear e4 hz e1
          by_cases hzn : z = net
          · subst hzn
            go_wp2
            go_round
            case rel => exact ⟨m + 1, by omega, by go_num, by rw [HZ.out, if_pos rfl]; congr 1⟩
            case measure => simp [intOf]; omega
          · have hzb : (z == net) = false := by simpa using hzn
            have HZN := Lib.hid hzn
            clear hzn
            go_wp2
            go_round
            case rel => exact ⟨m + 1, by omega, by go_num, by rw [HZ.out, if_neg HZN.out]; rfl⟩
            case measure => simp [intOf]; omega
        · obtain rfl : m = x.pins.length := by omega
          go_wp2
          go_round
          case rel => exact ⟨k + 1, by omega, by go_num, by rw [HST.out, HCF.out]⟩
          case measure => simp [intOf]; omega
    · obtain rfl : k = ds.length := by omega
      go_wp2
      go_ret
      exact ⟨ret_i64 (by rw [HF.out]), (by ((repeat (first | (with_reducible exact Below.refl _ _) | (with_reducible refine below_drewN ?_ _) | (with_reducible refine Below.drew ?_) | (with_reducible refine below_al ?_ _) | (with_reducible refine below_on (by assumption) ?_) | ((with_reducible refine Below.setCell ?_ ?_ _); rotate_left; focus (first | omega | (simp; done) | (simp; omega))) | (with_reducible assumption))); done))⟩
end Go.Proofs.YtjanifoipbmkhaaGreat

/- Contract of degrees. -/
namespace Go.Proofs.YtjanifoipbmkhaaGreat
open Go.RowKit
set_option linter.unusedVariables false
set_option linter.unusedSimpArgs false

set_option maxRecDepth 100000 in
set_option maxHeartbeats 2000000 in
theorem degrees_any (x : Nl) (n : Nat) (v : Value) (w : World) (h : NlV w v x) (hn : x.nets = (n : Int)) (hn24 : n ≤ 24) (hl : x.ds.length ≤ 24) (hp3 : ∀ d ∈ x.ds, d.pins.length ≤ 3) (hin : ∀ d ∈ x.ds, ∀ p ∈ d.pins, 0 ≤ p ∧ p < x.nets) :
    Calls Tryz.prog 66 #[v] w fun e w' => ∃ g, e = .returned (.slice (some ⟨g, 0, none⟩) n n) ∧ IBlk w' g (degs n x.ds) ∧ w.heap.size ≤ g ∧ Below w.heap.size w w' := by
  obtain ⟨s1, s2, rfl, hd, hp⟩ := h
  obtain ⟨nets, ds, ps⟩ := x
  dsimp only at hd hp hl hp3 hin hn ⊢
  subst hn
  have HD := Lib.hid hd
  have H3 := Lib.hid hp3
  have HIN := Lib.hid hin
  have HS := Lib.hid (fun k d h => degN_take ds k d h)
  have HL := Lib.hid (fun k net => degN_take_le ds k net hl hp3)
  clear hp3 hin
  obtain ⟨a1, c1, rfl⟩ := hd.sized
  obtain ⟨a2, c2, rfl⟩ := hp.sized
  clear hd hp
  obtain ⟨cs0, hcs0, hz0, hmk⟩ := make_ints n (by omega) (w.alloc (.cells #[.int .i64 (n : Int), .slice a1 ds.length c1, .slice a2 ps.length c2] 30))
  simp only [World.size_alloc] at hmk
  go_enter Tryz.func66, Tryz.ntmps66
  go_wp2
  clear hmk
  go_loopw [14] (fun i wr => ∃ k : Nat, k ≤ ds.length ∧ i = .int .i64 k ∧ (∃ cs : Array Value, Blk wr (w.heap.size + 1) cs 2 ∧ cs.size = n ∧ ∀ j, j < n → cs[j]? = some (Value.int .i64 (degN (ds.take k) (j : Int) : Nat))) ∧ Below w.heap.size w wr) (fun i _ => ds.length - (intOf i).toNat)
  case atStart => exact ⟨0, Nat.zero_le _, rfl, ⟨cs0, (by ((repeat (first | (with_reducible assumption) | (with_reducible refine Blk.drewN ?_ _) | (with_reducible refine Blk.drew ?_) | ((with_reducible refine Blk.new _ ?_); focus (first | omega | (simp; done) | (simp; omega))) | (with_reducible refine Blk.past ?_ _) | ((with_reducible refine Blk.apart ?_ _ _ _ ?_); rotate_left; focus (first | omega | (simp; done) | (simp; omega))) | (with_reducible refine Blk.by (by assumption) ?_))); done)), hcs0, fun j hj => by rw [hz0 j hj]; simp [degN]⟩, (by ((repeat (first | (with_reducible exact Below.refl _ _) | (with_reducible refine below_drewN ?_ _) | (with_reducible refine Below.drew ?_) | (with_reducible refine below_al ?_ _) | (with_reducible refine below_on (by assumption) ?_) | ((with_reducible refine Below.setCell ?_ ?_ _); rotate_left; focus (first | omega | (simp; done) | (simp; omega))) | (with_reducible assumption))); done))⟩
  case round =>
    obtain ⟨k, hk, rfl, ⟨cs, hB, hsz, hold⟩, hb⟩ := hrel
    have lg := hB.lt
    by_cases hlt : k < ds.length
    · obtain ⟨x, hx⟩ : ∃ x, ds[k]? = some x := ⟨ds[k], List.getElem?_eq_getElem hlt⟩
      have HDS := HD.out
      rcases HDS with ⟨_, _, _, h2⟩ | ⟨b, off, cap, he, h2, h3, h4⟩
      · rw [h2] at hlt; simp at hlt
      obtain ⟨rfl, rfl⟩ : a1 = some ⟨b, off, none⟩ ∧ c1 = cap := by simpa using he
      obtain ⟨sv, e1, e2, e3, e4, hS⟩ := h4 k x hx
      have d1 := cell_by' hb e1
      have d2 := cell_by' hb e2
      have d3 := cell_by' hb e3
      have d4 := cell_by' hb e4
      have lB := lt_of_cell d1
      dsimp only at lB
      have hx3 : x.pins.length ≤ 3 := H3.out x (List.mem_of_getElem? hx)
      have HXI := Lib.hid (HIN.out x (List.mem_of_getElem? hx))
      have HST := Lib.hid (HS.out k x hx)
      have HOLD := Lib.hid hold
      have HSZ := Lib.hid hsz
      have HI := Lib.hid hS
      obtain ⟨a', c', rfl⟩ := hS.len
      have i1 : (0 : Int) ≤ (k : Int) := by omega
      have i2 : (k : Int) < (ds.length : Int) := by omega
      clear h4 hx he hold hsz hS e1 e2 e3 e4 hcs0 hz0
      go_wp2
      go_loopw [21] (fun i wr2 => ∃ m : Nat, m ≤ x.pins.length ∧ i = .int .i64 m ∧ (∃ cs : Array Value, Blk wr2 (w.heap.size + 1) cs 2 ∧ cs.size = n ∧ ∀ j, j < n → cs[j]? = some (Value.int .i64 (degN (ds.take k) (j : Int) + (x.pins.take m).count (j : Int) : Nat))) ∧ Below w.heap.size w wr2) (fun i _ => x.pins.length - (intOf i).toNat)
      case atStart => exact ⟨0, Nat.zero_le _, rfl, ⟨cs, (by ((repeat (first | (with_reducible assumption) | (with_reducible refine Blk.drewN ?_ _) | (with_reducible refine Blk.drew ?_) | ((with_reducible refine Blk.new _ ?_); focus (first | omega | (simp; done) | (simp; omega))) | (with_reducible refine Blk.past ?_ _) | ((with_reducible refine Blk.apart ?_ _ _ _ ?_); rotate_left; focus (first | omega | (simp; done) | (simp; omega))) | (with_reducible refine Blk.by (by assumption) ?_))); done)), HSZ.out, fun j hj => by rw [HOLD.out j hj]; simp⟩, (by ((repeat (first | (with_reducible exact Below.refl _ _) | (with_reducible refine below_drewN ?_ _) | (with_reducible refine Below.drew ?_) | (with_reducible refine below_al ?_ _) | (with_reducible refine below_on (by assumption) ?_) | ((with_reducible refine Below.setCell ?_ ?_ _); rotate_left; focus (first | omega | (simp; done) | (simp; omega))) | (with_reducible assumption))); done))⟩
      case round =>
        clear hB
        obtain ⟨m, hm, rfl, ⟨cs, hB, hsz, hold⟩, hb2⟩ := hrel
        have HSZ := Lib.hid hsz
        have HOLD := Lib.hid hold
        clear hsz hold
        by_cases hlm : m < x.pins.length
        · obtain ⟨z, hz⟩ : ∃ z, x.pins[m]? = some z := ⟨x.pins[m], List.getElem?_eq_getElem hlm⟩
          have HIS := HI.out
          rcases HIS with ⟨_, _, _, e2⟩ | ⟨bp, op, cp, e1, e2, e3, e4⟩
          · rw [e2] at hlm; simp at hlm
          obtain ⟨rfl, rfl⟩ : a' = some ⟨bp, op, none⟩ ∧ c' = cp := by simpa using e1
          obtain ⟨hz0, hzn⟩ := HXI.out z (List.mem_of_getElem? hz)
          obtain ⟨q, rfl⟩ : ∃ q : Nat, z = (q : Int) := ⟨z.toNat, by omega⟩
          have cz := cell_by' hb2 (e4 m _ hz)
          have lZ := lt_of_cell cz
          dsimp only at lZ
          have hq : q < n := by omega
          have HCT := Lib.hid (fun net => count_take x.pins m _ hz net)
          have hv := HL.out k (q : Int)
          have hv2 := count_take_le x.pins m (q : Int) hx3
          have d0 := HOLD.out q hq
          obtain ⟨v, hv'⟩ : ∃ v : Nat, degN (ds.take k) (q : Int) + (x.pins.take m).count (q : Int) = v := ⟨_, rfl⟩
          rw [hv'] at d0
          have hvl : v ≤ 75 := by omega
          have HV := Lib.hid hv'
          have j1 : (0 : Int) ≤ (m : Int) := by omega
          have j2 : (m : Int) < (x.pins.length : Int) := by omega
          have q1 : (0 : Int) ≤ (q : Int) := by omega
          have q2 : (q : Int) < (n : Int) := by omega
          have hBc := hB.cell
          have hBf := hB.free
          clear e4 hz e1 hv'
          go_wp2
          refine ⟨⟨m + 1, by omega, by go_num, ⟨_, hB.set _ _, by simp [HSZ.out], ?_⟩, (by ((repeat (first | (with_reducible exact Below.refl _ _) | (with_reducible refine below_drewN ?_ _) | (with_reducible refine Below.drew ?_) | (with_reducible refine below_al ?_ _) | (with_reducible refine below_on (by assumption) ?_) | ((with_reducible refine Below.setCell ?_ ?_ _); rotate_left; focus (first | omega | (simp; done) | (simp; omega))) | (with_reducible assumption))); done))⟩, by simp [intOf]; omega⟩
          intro j hj
          rw [Array.getElem?_setIfInBounds]
          by_cases hjq : q = j
          · subst hjq
            rw [if_pos rfl, if_pos (by rw [HSZ.out]; exact hj), HCT.out, if_pos rfl]
            have := HV.out
            congr 2; omega
          · rw [if_neg hjq, HOLD.out j hj, HCT.out, if_neg (by omega)]; rfl
        · obtain rfl : m = x.pins.length := by omega
          go_wp2
          refine ⟨⟨k + 1, by omega, by go_num, ⟨cs, hB, HSZ.out, fun j hj => ?_⟩, hb2⟩, by simp [intOf]; omega⟩
          rw [HOLD.out j hj, List.take_length, HST.out]
    · obtain rfl : k = ds.length := by omega
      rw [List.take_length] at hold
      have HOLD := Lib.hid hold
      have HSZ := Lib.hid hsz
      clear hold hsz hcs0 hz0
      go_wp2
      go_ret
      refine ⟨w.heap.size + 1, rfl, ⟨cs, hB, by rw [HSZ.out, length_degs], fun i y hy => ?_⟩, by omega, hb⟩
      have hi : i < n := by have := (List.getElem?_eq_some_iff.1 hy).1; rwa [length_degs] at this
      rw [degs_get n ds i hi] at hy
      cases hy
      exact HOLD.out i hi
end Go.Proofs.YtjanifoipbmkhaaGreat
