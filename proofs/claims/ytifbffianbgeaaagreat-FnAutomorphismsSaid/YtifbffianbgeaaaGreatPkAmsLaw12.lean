/- Contracts and plain laws, part 12, for the statement's proof. -/
import Derived.Test.YtifbffianbgeaaaGreatPkAmsLaw11
import Derived.Deep.DeepCutAuto
import Derived.Deep.CutRange
namespace Go.Proofs.YtifbffianbgeaaaGreat
open Go.RowKit
set_option linter.unusedVariables false
set_option linter.unusedSimpArgs false
set_option maxRecDepth 100000 in
set_option maxHeartbeats 4000000 in
theorem portsOf_any (x : Nl) (v : Value) (w : World) (h : NlV w v x) (hx : nlB x = true) :
    Calls Tryz.prog 92 #[v] w fun e w' => ∃ v', e = .returned v' ∧ LlIn w' w.heap.size w'.heap.size v' (netL x x.nets.toNat) ∧ Below w.heap.size w w' := by
  obtain ⟨⟨hn0, hn1⟩, _, hp8, _, _⟩ := nlB_facts hx
  have HPI := Lib.hid (fun (p : Pt) (hp : p ∈ x.ps) => pt_in hx hp)
  obtain ⟨s1, s2, rfl, hds, hps⟩ := h
  obtain ⟨nets, ds, ps⟩ := x
  dsimp only at *
  obtain ⟨m, rfl⟩ : ∃ n : Nat, nets = n := ⟨nets.toNat, by omega⟩
  have HP := Lib.hid hps
  obtain ⟨a1, c1, rfl⟩ := hds.sized
  obtain ⟨a2, c2, rfl⟩ := hps.sized
  obtain ⟨L, hL⟩ : ∃ L, ds.length = L := ⟨_, rfl⟩
  obtain ⟨L2, hL2⟩ : ∃ L, ps.length = L := ⟨_, rfl⟩
  rw [hL]
  rw [hL2] at HP hp8 ⊢
  have HL2 := Lib.hid hL2
  have hmt : ((m : Nat) : Int).toNat = m := by omega
  rw [hmt]
  have HST := Lib.hid (fun (net : Int) k p h => portTo_step ps net k p h)
  have HLE := Lib.hid (fun (net : Int) k => portTo_len ps net k)
  have HC0 := Lib.hid (fun (net : Int) => show portTo ps net 0 = [] from rfl)
  have HFN := Lib.hid (show netL ⟨(m : Int), ds, ps⟩ m = (List.range m).map fun j : Nat => portTo ps (j : Int) L2 from by rw [← hL2]; rfl)
  generalize netL ⟨(m : Int), ds, ps⟩ m = RR at *
  clear hds hps hL hL2 hx hmt hn0
  obtain ⟨cs0, hcs0, hcz, hmk⟩ := make_lists m (by omega) (w.alloc (.cells #[.int .i64 (m : Int), .slice a1 L c1, .slice a2 L2 c2] 35))
  simp only [World.size_alloc] at hmk
  obtain ⟨wI, hwI⟩ : ∃ wI, wI = (w.alloc (.cells #[.int .i64 (m : Int), .slice a1 L c1, .slice a2 L2 c2] 35)).alloc (.cells cs0 27) := ⟨_, rfl⟩
  have hal : Below w.heap.size w wI := by rw [hwI]; exact ((Below.refl _ w).alloc (Nat.le_refl _) _).alloc (by simp) _
  have hsI : wI.heap.size = w.heap.size + 2 := by rw [hwI]; simp
  have kAI : Blk wI w.heap.size #[.int .i64 (m : Int), .slice a1 L c1, .slice a2 L2 c2] 35 := by rw [hwI]; exact (Blk.new _ rfl).past _
  have HNI : Hid (NetsI wI (w.heap.size + 1) (w.heap.size + 2) m (fun j : Nat => portTo ps (j : Int) 0)) := by
    apply Lib.hid
    refine ⟨cs0, fun _ => .slice none 0 0, by rw [hwI]; exact Blk.new _ (by simp), hcs0, fun j hj => ⟨hcz j hj, ?_⟩, fun i j hi hj hij g hg => by cases hg⟩
    show BldI wI (w.heap.size + 2) wI.heap.size (.slice none 0 0) (portTo ps (j : Int) 0)
    rw [HC0.out, ← hsI]
    exact BldI.nil wI _
  obtain ⟨N, hN⟩ : ∃ N, w.heap.size + 1 = N := ⟨_, rfl⟩
  have HN := Lib.hid hN
  have hNw : w.heap.size < N := by omega
  rw [show w.heap.size + 2 = N + 1 by omega] at HNI hsI
  rw [hN] at HNI hmk
  clear hcs0 hcz hN
  go_enter Tryz.func92, Tryz.ntmps92
  go_wp2
  clear hmk
  (try rw [HN.out])
  (try rw [← hwI])
  clear hwI
  go_loopw [12] (fun i wr => ∃ k : Nat, k ≤ L2 ∧ i = .int .i64 (k : Int) ∧ Hid (NetsI wr N (N + 1) m (fun j : Nat => portTo ps (j : Int) k)) ∧ N < wr.heap.size ∧ Blk wr w.heap.size #[.int .i64 (m : Int), .slice a1 L c1, .slice a2 L2 c2] 35 ∧ Below w.heap.size w wr) (fun i _ => L2 - (intOf i).toNat)
  case atStart => exact ⟨0, Nat.zero_le _, rfl, HNI, by omega, kAI, hal⟩
  case round =>
    clear HNI hal hsI kAI
    obtain ⟨k, hk, rfl, HNI, hNs, kA, hb⟩ := hrel
    by_cases hlt : k < L2
    · obtain ⟨p, hp⟩ : ∃ p, ps[k]? = some p := ⟨_, List.getElem?_eq_getElem (by rw [HL2.out]; exact hlt)⟩
      obtain ⟨hz0, hz1⟩ := HPI.out p (List.mem_of_getElem? hp)
      obtain ⟨name, net⟩ := p
      dsimp only at hz0 hz1
      obtain ⟨r, rfl⟩ : ∃ r : Nat, net = r := ⟨net.toNat, by omega⟩
      have hrm : r < m := by omega
      rcases HP.out with ⟨_, _, _, e2⟩ | ⟨b, off, cap, he, _, _, h4⟩
      · rw [e2] at hp; simp at hp
      obtain ⟨rfl, rfl⟩ : a2 = some ⟨b, off, none⟩ ∧ c2 = cap := by
        simp only [Value.slice.injEq] at he
        exact ⟨he.1, he.2.2⟩
      obtain ⟨p1, p2⟩ := (h4 k _ hp).by hb
      have HSTX : Hid (∀ j : Nat, portTo ps (j : Int) (k + 1) = portTo ps (j : Int) k ++ (if (r : Int) = (j : Int) then [(k : Int)] else [])) := Lib.hid (fun j => HST.out (j : Int) k _ hp)
      have i2 : (0 : Int) ≤ (k : Int) := by omega
      have i3 : (k : Int) < (L2 : Int) := by omega
      obtain ⟨cs, vs, n1, n2, n3, n4⟩ := HNI.out
      obtain ⟨n5, n6⟩ := n3 r hrm
      (try dsimp only at n6)
      obtain ⟨Zr, hZr⟩ : ∃ Z, portTo ps (r : Int) k = Z := ⟨_, rfl⟩
      have hlen := HLE.out (r : Int) k
      rw [hZr] at n6 hlen
      have HZR := Lib.hid hZr
      obtain ⟨av, cv, hvs⟩ := n6.sized
      rw [hvs] at n5 n6
      obtain ⟨zl, hzl⟩ : ∃ z, Zr.length = z := ⟨_, rfl⟩
      rw [hzl] at n5 n6 hvs hlen
      have HZL := Lib.hid hzl
      have HVS := Lib.hid hvs
      have HN1 := Lib.hid n1
      have HN2' := Lib.hid n2
      have HN3 := Lib.hid n3
      have HN4 := Lib.hid n4
      have HN5 := Lib.hid n5
      have HN6 := Lib.hid n6
      have i4 : (0 : Int) ≤ (r : Int) := by omega
      have i5 : (r : Int) < (m : Int) := by omega
      have i6 : decide (r < m) = true := decide_eq_true hrm
      clear hp h4 he n1 n2 n3 n4 n5 n6 hvs hZr hzl
      go_upto_region 5 with fail
      obtain ⟨wz, hwz⟩ : ∃ z : World, z = wr.alloc (.cells #[.string name, .int .i64 (r : Int)] 98) := ⟨_, rfl⟩
      have kP : Blk wz wr.heap.size #[.string name, .int .i64 (r : Int)] 98 := by rw [hwz]; exact Blk.new _ rfl
      have kN : Blk wz N cs 27 := by rw [hwz]; exact HN1.out.past _
      have hbz : Below wr.heap.size wr wz := by rw [hwz]; exact (Below.refl _ wr).alloc (Nat.le_refl _) _
      have hsz : wz.heap.size = wr.heap.size + 1 := by rw [hwz]; simp
      have kAz := Blk.by hbz kA
      have HBZ := Lib.hid (HN6.out.by hbz)
      have HSZ := Lib.hid hsz
      have hs1 : wr.heap.size < wz.heap.size := by omega
      (try rw [← hwz])
      clear hwz hsz
      have hS : (fun w' : World => Blk w' wr.heap.size #[.string name, .int .i64 (r : Int)] 98 ∧ Blk w' N cs 27) { wz with drawn := wz.drawn + 1 } := ⟨kP.drew, kN.drew⟩
      refine wp_region_any (by kernel_rfl) (wpAny_of_E (S := fun w' : World => Blk w' wr.heap.size #[.string name, .int .i64 (r : Int)] 98 ∧ Blk w' N cs 27) (l := 12) _ _ _ _ ?_)
      change wpAnyE _ _ _ _ _ _ _ _ _ wz.drew
      refine wpAnyE_takeL (i := 0) (v := ?_) rfl (by kernel_rfl) (fun _ _ _ h => h) (Or.inl ⟨by rfl, ?_⟩) hS ?_
      rotate_left
      · intro w hSw; (try dsimp only at hSw); have qP := hSw.1.cell; have qN := (hSw.2.cell r).trans HN5.out; have lP := hSw.1.lt; have lN := hSw.2.lt; clear hSw; go_simp; (try with_reducible rfl)
      try simp only [Act.put, List.setIfInBounds_toArray, List.set_cons_zero, List.set_cons_succ]
      refine wpAnyE_takeL (i := 1) (v := ?_) rfl (by kernel_rfl) (fun _ _ _ h => h) (Or.inl ⟨by rfl, ?_⟩) hS ?_
      rotate_left
      · intro w hSw; (try dsimp only at hSw); have qP := hSw.1.cell; have qN := (hSw.2.cell r).trans HN5.out; have lP := hSw.1.lt; have lN := hSw.2.lt; clear hSw; go_simp; (try with_reducible rfl)
      try simp only [Act.put, List.setIfInBounds_toArray, List.set_cons_zero, List.set_cons_succ]
      refine wpAnyE_takeL (i := 2) (v := ?_) rfl (by kernel_rfl) (fun _ _ _ h => h) (Or.inl ⟨by rfl, ?_⟩) hS ?_
      rotate_left
      · intro w hSw; (try dsimp only at hSw); have qP := hSw.1.cell; have qN := (hSw.2.cell r).trans HN5.out; have lP := hSw.1.lt; have lN := hSw.2.lt; clear hSw; go_simp; (try with_reducible rfl)
      try simp only [Act.put, List.setIfInBounds_toArray, List.set_cons_zero, List.set_cons_succ]
      refine wpAnyE_takeL (i := 3) (v := ?_) rfl (by kernel_rfl) (fun _ _ _ h => h) (Or.inl ⟨by rfl, ?_⟩) hS ?_
      rotate_left
      · intro w hSw; (try dsimp only at hSw); have qP := hSw.1.cell; have qN := (hSw.2.cell r).trans HN5.out; have lP := hSw.1.lt; have lN := hSw.2.lt; clear hSw; go_simp; (try with_reducible rfl)
      try simp only [Act.put, List.setIfInBounds_toArray, List.set_cons_zero, List.set_cons_succ]
      refine wpAnyE_takeL (i := 4) (v := ?_) rfl (by kernel_rfl) (fun _ _ _ h => h) (Or.inl ⟨by rfl, ?_⟩) hS ?_
      rotate_left
      · intro w hSw; (try dsimp only at hSw); have qP := hSw.1.cell; have qN := (hSw.2.cell r).trans HN5.out; have lP := hSw.1.lt; have lN := hSw.2.lt; clear hSw; go_simp; (try with_reducible rfl)
      try simp only [Act.put, List.setIfInBounds_toArray, List.set_cons_zero, List.set_cons_succ]
      refine wpAnyE_takeL (i := 5) (v := ?_) rfl (by kernel_rfl) (fun _ _ _ h => h) (Or.inl ⟨by rfl, ?_⟩) hS ?_
      rotate_left
      · intro w hSw; (try dsimp only at hSw); have qP := hSw.1.cell; have qN := (hSw.2.cell r).trans HN5.out; have lP := hSw.1.lt; have lN := hSw.2.lt; clear hSw; go_simp; (try with_reducible rfl)
      try simp only [Act.put, List.setIfInBounds_toArray, List.set_cons_zero, List.set_cons_succ]
      refine wpAnyE_takeL (i := 6) (v := ?_) rfl (by kernel_rfl) (fun _ _ _ h => h) (Or.inl ⟨by rfl, ?_⟩) hS ?_
      rotate_left
      · intro w hSw; (try dsimp only at hSw); have qP := hSw.1.cell; have qN := (hSw.2.cell r).trans HN5.out; have lP := hSw.1.lt; have lN := hSw.2.lt; clear hSw; go_simp; (try with_reducible rfl)
      try simp only [Act.put, List.setIfInBounds_toArray, List.set_cons_zero, List.set_cons_succ]
      refine wpAnyE_takeL (i := 7) (v := ?_) rfl (by kernel_rfl) (fun _ _ _ h => h) (Or.inl ⟨by rfl, ?_⟩) hS ?_
      rotate_left
      · intro w hSw; (try dsimp only at hSw); have qP := hSw.1.cell; have qN := (hSw.2.cell r).trans HN5.out; have lP := hSw.1.lt; have lN := hSw.2.lt; clear hSw; go_simp; (try with_reducible rfl)
      try simp only [Act.put, List.setIfInBounds_toArray, List.set_cons_zero, List.set_cons_succ]
      refine wpAnyE_takeL (i := 8) (v := ?_) rfl (by kernel_rfl) (fun _ _ _ h => h) (Or.inl ⟨by rfl, ?_⟩) hS ?_
      rotate_left
      · intro w hSw; (try dsimp only at hSw); have qP := hSw.1.cell; have qN := (hSw.2.cell r).trans HN5.out; have lP := hSw.1.lt; have lN := hSw.2.lt; clear hSw; go_simp; (try with_reducible rfl)
      try simp only [Act.put, List.setIfInBounds_toArray, List.set_cons_zero, List.set_cons_succ]
      refine wpAnyE_oneL (k := 9) (by kernel_rfl) rfl (fun K hK => ?_)
      go_simp
      have kN9 : Blk (wz.alloc (.cells #[.int .i64 (k : Int)] 2)).drew wz.heap.size #[.int .i64 (k : Int)] 2 := (Blk.new _ rfl).drew
      have hb9 : Below wz.heap.size wz (wz.alloc (.cells #[.int .i64 (k : Int)] 2)).drew := ((Below.refl _ wz).alloc (Nat.le_refl _) _).drew
      have hsz9 : (wz.alloc (.cells #[.int .i64 (k : Int)] 2)).drew.heap.size = wz.heap.size + 1 := by simp [World.size_drew]
      have HSZ9 := Lib.hid hsz9
      have hs9 : wz.heap.size < (wz.alloc (.cells #[.int .i64 (k : Int)] 2)).drew.heap.size := by omega
      clear hsz9
      have kP9 := Blk.by hb9 kP
      have kNN9 := Blk.by hb9 kN
      have HB9 := Lib.hid (HBZ.out.by hb9)
      have kA9 := Blk.by hb9 kAz
      have hb9r : Below wr.heap.size wr (wz.alloc (.cells #[.int .i64 (k : Int)] 2)).drew := below_on hb9 hbz
      generalize (wz.alloc (.cells #[.int .i64 (k : Int)] 2)).drew = wn at *
      clear hS hb9
      refine hK.out _ _ (fun _ => ⟨kP9, kNN9⟩) ?_
      try simp only [Act.put, List.setIfInBounds_toArray, List.set_cons_zero, List.set_cons_succ]
      refine wpAnyE_oneL (k := 10) (by kernel_rfl) rfl (fun K hK => ?_)
      refine step_pushG (by rfl) _ _ (by rfl) (N + 1) wr.heap.size (.slice av zl cv) Zr [(k : Int)] (by rfl) HB9.out wz.heap.size 1 #[.int .i64 (k : Int)] (by rfl) rfl (by omega) kN9 rfl (by omega) (by rw [HZL.out]; omega) ?_
      intro g5 c5 w5 hB5 hk5 ho5 hw5
      rw [HZL.out] at hB5 ⊢
      have kP5 := hw5.blk kP9 (by omega)
      have kN5 := hw5.blk kNN9 (by omega)
      have kA5 := hw5.blk kA9 (by omega)
      have hs5 := hw5.size
      refine hK.out _ _ (fun _ => ⟨kP5, kN5⟩) ?_
      try simp only [Act.put, List.setIfInBounds_toArray, List.set_cons_zero, List.set_cons_succ]
      have HB5 := Lib.hid hB5
      have HK5 := Lib.hid hk5
      have HO5 := Lib.hid ho5
      have HW5 := Lib.hid hw5
      have l5 := kN5.lt
      have c5N := (kN5.cell r).trans HN5.out
      have f5 := kN5.free
      clear hB5 hk5 ho5 hw5
      refine wpAnyE_oneL (k := 11) (by kernel_rfl) rfl (fun K hK => ?_)
      go_simp
      refine hK.out _ _ (fun _ => ⟨kP5, kN5⟩) ?_
      try simp only [Act.put, List.setIfInBounds_toArray, List.set_cons_zero, List.set_cons_succ]
      refine wpAnyE_oneL (k := 12) (by kernel_rfl) rfl (fun K hK => ?_)
      go_simp
      refine hK.out _ _ (fun h => absurd rfl h) ?_
      refine wpAnyE_done (by kernel_rfl) ?_ _
      have hbf : Below w.heap.size w w5 := HW5.out.below (below_on hb9r hb) (by omega)
      have hlst : portTo ps (r : Int) (k + 1) = Zr ++ [(k : Int)] := by rw [HSTX.out, if_pos rfl, HZR.out]
      have hlen2 : (Zr ++ [(k : Int)]).length = zl + 1 := by simp [HZL.out]
      have hold : ∀ q, q < wr.heap.size → (Value.slice av zl cv).ownBlock ≠ some q → w5.heap[q]? = wr.heap[q]? := fun q hq hne => (HK5.out q (by omega) hne).trans (hb9r.block q hq)
      have hfin := NetsI.grow (lst := (fun j : Nat => portTo ps (j : Int) k)) (lst' := (fun j : Nat => portTo ps (j : Int) (k + 1))) (g := g5) (cap := c5) HN1.out HN2'.out HN3.out HN4.out hrm (by omega) (by
        (try dsimp only)
        rw [hlst, hlen2]
        exact HB5.out) (by rw [HVS.out]; exact hold) (by rw [HVS.out]; exact HO5.out.imp id (fun e => by have := HSZ9.out; omega)) (by omega) (fun i hi => by
        (try dsimp only)
        rw [HSTX.out, if_neg (by omega), List.append_nil])
      (try dsimp only at hfin)
      rw [hlst, hlen2] at hfin
      have HFIN := Lib.hid hfin
      have kA6 := kA5.apart N r (.slice (some ⟨g5, 0, none⟩) (zl + 1) c5) (by omega)
      have hb6 : Below w.heap.size w (w5.setCell ⟨N, r, none⟩ (.slice (some ⟨g5, 0, none⟩) (zl + 1) c5)) := hbf.setCell (show w.heap.size ≤ N by omega) _
      clear hfin hold hlst hlen2 hbf kP5 kN5 kA5
      go_wp2
      exact ⟨⟨k + 1, by omega, by go_num, HFIN, by simp; omega, kA6, hb6⟩, by simp [intOf]; omega⟩
    · obtain rfl : k = L2 := by omega
      have i2 : ¬ (k : Int) < (k : Int) := by omega
      go_wp2
      go_ret
      refine ⟨_, rfl, ?_, hb⟩
      rw [HFN.out]
      obtain ⟨cs, vs, n1, n2, n3, n4⟩ := HNI.out
      refine ⟨N, cs, by simp, by omega, n1, by simp; omega, fun j xs hx => ?_⟩
      have hj : j < m := by have := (List.getElem?_eq_some_iff.1 hx).1; simpa using this
      rw [List.getElem?_map, List.getElem?_range hj] at hx
      simp only [Option.map_some, Option.some.injEq] at hx
      subst hx
      exact ⟨vs j, (n3 j hj).1, OwnR.wide' (n3 j hj).2.own (by omega) (Nat.le_refl _)⟩
theorem refined_n (x : Nl) (n : Nat) (hx : nlB x = true) (hn : x.nets = n) (v : Value) (w : World) (h : NlV w v x) :
    Calls Tryz.prog 93 #[v] w fun e w' => ∃ (a1 : Option Addr) (c1 : Nat) (a2 : Option Addr) (L c2 : Nat) (q : Int), e = .returned (.tuple #[.agg #[.slice a1 n c1, .slice a2 L c2], .int .i64 q]) ∧ OwnR w' w.heap.size w'.heap.size (.slice a1 n c1) (refNet x).1.1 ∧ OwnR w' w.heap.size w'.heap.size (.slice a2 L c2) (refNet x).1.2 ∧ (refNet x).1.2.length = L ∧ Below w.heap.size w w' := by
  have hR : refNet x = refN x 64 (iniS x) 0 := by unfold refNet; rw [if_pos hx]
  have hl : (refNet x).1.1.length = n := by have := (ref_lens hx).1; omega
  refine (refined_any x v w h hx).mono ?_
  rw [← hR]
  rintro e w' ⟨v', rfl, ⟨s1, s2, l1, h1, l2, h2, rfl, hO1, hO2, hi1, hi2, _⟩, hb⟩
  obtain ⟨a1, c1, rfl⟩ := hO1.sl.len
  obtain ⟨a2, c2, rfl⟩ := hO2.sl.len
  rw [hl] at hO1 ⊢
  exact ⟨a1, c1, a2, _, c2, _, rfl, OwnR.wide' hO1 hi1.1 hi1.2, OwnR.wide' hO2 hi2.1 hi2.2, rfl, hb⟩
theorem nlV_dp {w : World} {nets : Int} {s1 s2 : Value} {x : Nl} (h : NlV w (.agg #[.int .i64 nets, s1, s2]) x) : DvSl w s1 x.ds ∧ PtSl w s2 x.ps := by
  obtain ⟨t1, t2, e, h1, h2⟩ := h
  simp only [Value.agg.injEq, Array.mk.injEq, List.cons.injEq, and_true] at e
  obtain ⟨_, rfl, rfl⟩ := e
  exact ⟨h1, h2⟩
structure YldC (x y : Nl) (one : Bool) (v u : Value) (gY : Nat) (lY : Array Value) (Y : Nat → Prop) (Yd : List (List Int) → World → Prop) (w0 : World) : Prop where
  hV : ∀ w, Exc Y w0 w → NlV w v x
  hU : ∀ w, Exc Y w0 w → NlV w u y
  hYl : ∀ b, Y b → b < w0.heap.size
  eg : ∀ args w, (callFunc gY args).run Tryz.prog w = .ok (.enter gY args) w
  hY : preB x y = true → ∀ (zs : List (List Int)) (z : List Int) (sv : Value) (w : World), Yd zs w → (one = true → zs = []) → Exc Y w0 w → IntSl w sv z → goodN x.nets.toNat z → z.length = x.nets.toNat → fitB x y z = true → Calls Tryz.prog gY (#[sv] ++ lY) w fun e w' => e = .returned (.bool (!one)) ∧ Yd (zs ++ [z]) w' ∧ Exc Y w w'
  hYs : ∀ (zs : List (List Int)) (w w' : World), Yd zs w → (one = true → zs = []) → Exc (fun b => w0.heap.size ≤ b) w w' → Yd zs w'
  h0 : Yd [] w0
def MtO (wo w : World) (n : Nat) (x y : Nl) (cells : Nat → Nat → Nat → Array Value) (mv : Value) : Prop := ∃ (M U NA NB la ha lb hb : Nat), mv = .pointer (some ⟨M, 0, none⟩) ∧ Blk w M (cells U NA NB) 127 ∧ UsedB w U n [] ∧ LlIn w la ha (.slice (some ⟨NA, 0, none⟩) n n) (netL x n) ∧ LlIn w lb hb (.slice (some ⟨NB, 0, none⟩) n n) (netL y n) ∧ M ≠ U ∧
  (∀ k, la ≤ k → k < ha → k ≠ M ∧ k ≠ U) ∧ (∀ k, lb ≤ k → k < hb → k ≠ M ∧ k ≠ U) ∧ (wo.heap.size ≤ M ∧ wo.heap.size ≤ U ∧ M < w.heap.size ∧ U < w.heap.size) ∧ (wo.heap.size ≤ la ∧ wo.heap.size ≤ lb ∧ ha ≤ w.heap.size ∧ hb ≤ w.heap.size) ∧ Below wo.heap.size wo w
theorem step_pushDN {ops : Array Oper} {o : Oper} {a : Act} {w : World} {K : Act → World → Prop} {Q : Exit → Act → World → Prop} {E : Prop} (hgd : o.guard = none) (s x : Operand)
    (ho : o.op = .call { callee := .builtin .append, args := #[s, x], argTypes := #[32, 32] })
    (lo hi N : Nat) (v : Value) (ds : List Dv) (hN : ds.length = N) (hs : a.eval s = v) (hB : Bld w lo hi v ds) (nb : Nat) (d : Dv) (pv : Value) (fb : Nat) (hx : a.eval x = .slice (some ⟨nb, 0, none⟩) 1 1)
    (hnb : Blk w nb #[.int .i64 d.kind, pv, .int .i64 d.wd, .int .i64 d.len] 62) (hpv : OwnR w fb (fb + 1) pv d.pins) (hlo : lo ≤ hi) (hhi : hi ≤ fb) (hfb : fb < w.heap.size) (hn : N ≤ 1000)
    (hK : ∀ a' c' w', Bld w' lo w'.heap.size (.slice a' (N + 1) c') (ds ++ [d]) → Within lo hi w w' → K (a.put o.dst (.slice a' (N + 1) c')) w') :
    if Region.wanted o (yielded ops a.tmps) = true then Oper.wp Tryz.prog o a w K Q else E := by
  subst hN
  exact step_push hgd s x ho lo hi v ds hs hB nb d pv fb hx hnb hpv hlo hhi hfb hn hK
noncomputable def ismS (x y : Nl) (one : Bool) : List (List Int) := if preB x y = true then srchS x y one else []
set_option maxRecDepth 100000 in
set_option maxHeartbeats 16000000 in
theorem isomorphisms_any (x y : Nl) (one : Bool) (v u : Value) (gY : Nat) (lY : Array Value) (Y : Nat → Prop) (Yd : List (List Int) → World → Prop) (w : World) (hx : nlB x = true) (hy : nlB y = true) (hlx : x.ds.length ≤ 10) (hly : y.ds.length ≤ 10) (h : YldC x y one v u gY lY Y Yd w) :
    Calls Tryz.prog 42 #[v, u, .func (.func gY) #[] lY] w fun e w' => e = .returned (.tuple #[]) ∧ Yd (ismS x y one) w' ∧ Exc Y w w' := by
  have HC := Lib.hid h
  have HNO : Hid (∀ w', Below w.heap.size w w' → preB x y = false → Yd (ismS x y one) w' ∧ Exc Y w w') := Lib.hid (fun w' hb hp => by
    unfold ismS
    rw [hp]
    exact ⟨h.hYs [] w w' h.h0 (fun _ => rfl) (Exc.ofBelow hb), Exc.ofBelow hb⟩)
  have HPB := Lib.hid (show preB x y = (decide (x.nets = y.nets) && (decide (x.ds.length = y.ds.length) && decide (namD x.ps y.ps = -1))) from rfl)
  have HV := Lib.hid (h.hV w (Exc.refl _ _))
  have HU := Lib.hid (h.hU w (Exc.refl _ _))
  obtain ⟨s1, s2, rfl, hd, hp⟩ := h.hV w (Exc.refl _ _)
  obtain ⟨t1, t2, rfl, hd', hp'⟩ := h.hU w (Exc.refl _ _)
  have HPS := Lib.hid hp
  have HQS := Lib.hid hp'
  obtain ⟨a1, c1, rfl⟩ := hd.sized
  obtain ⟨a2, c2, rfl⟩ := hp.sized
  obtain ⟨b1, d1, rfl⟩ := hd'.sized
  obtain ⟨b2, d2, rfl⟩ := hp'.sized
  obtain ⟨hnx, hpx⟩ : (0 ≤ x.nets ∧ x.nets ≤ 24) ∧ x.ps.length ≤ 8 := by obtain ⟨h1, _, h2, _⟩ := nlB_facts hx; exact ⟨h1, h2⟩
  obtain ⟨hny, hpy⟩ : (0 ≤ y.nets ∧ y.nets ≤ 24) ∧ y.ps.length ≤ 8 := by obtain ⟨h1, _, h2, _⟩ := nlB_facts hy; exact ⟨h1, h2⟩
  have HX := Lib.hid hx
  have HY := Lib.hid hy
  obtain ⟨nx, enx⟩ : ∃ N, x.nets = N := ⟨_, rfl⟩
  obtain ⟨ny, eny⟩ : ∃ N, y.nets = N := ⟨_, rfl⟩
  obtain ⟨la, ela⟩ : ∃ N, x.ds.length = N := ⟨_, rfl⟩
  obtain ⟨lb, elb⟩ : ∃ N, y.ds.length = N := ⟨_, rfl⟩
  obtain ⟨pa, epa⟩ : ∃ N, x.ps.length = N := ⟨_, rfl⟩
  obtain ⟨pb, epb⟩ : ∃ N, y.ps.length = N := ⟨_, rfl⟩
  simp only [enx, ela, epa, eny, elb, epb] at HC HPS HQS HV HU hlx hly hpx hpy hnx hny ⊢
  have HPB := Lib.hid (show preB x y = (decide (nx = ny) && (decide (la = lb) && decide (namD x.ps y.ps = -1))) from by rw [HPB.out, enx, eny, ela, elb])
  have HNX := Lib.hid enx
  have HNY := Lib.hid eny
  have HLA := Lib.hid ela
  have HLB := Lib.hid elb
  have HPA := Lib.hid epa
  have HPB2 := Lib.hid epb
  clear h hd hp hd' hp' hx hy enx eny ela elb epa epb
  by_cases hn : nx = ny
  · subst hn
    have g1 : (nx != nx) = false := by simp
    have g2 : (nx == nx) = true := by simp
    by_cases hl : la = lb
    · subst hl
      have g3 : ((la : Int) != (la : Int)) = false := by simp
      have g4 : ((la : Int) == (la : Int)) = true := by simp
      by_cases hpp : pa = pb
      · subst hpp
        have g5 : ((pa : Int) != (pa : Int)) = false := by simp
        have g6 : ((pa : Int) == (pa : Int)) = true := by simp
        have HNA := Lib.hid (show ∀ k p q, x.ps[k]? = some p → y.ps[k]? = some q → namAt x.ps y.ps k = (p.name.toList == q.name.toList) from fun k p q h1 h2 => by unfold namAt; rw [h1, h2])
        have HMX := Lib.hid (show max x.ps.length y.ps.length = pa from by rw [HPA.out, HPB2.out, Nat.max_self])
        go_enter Tryz.func42, Tryz.ntmps42
        go_wp2
        go_loopw [37] (fun iv wr => ∃ k : Nat, k ≤ pa ∧ iv = .int .i64 (k : Int) ∧ Hid (∀ j, j < k → namAt x.ps y.ps j = true) ∧ Blk wr w.heap.size #[.int .i64 nx, .slice a1 la c1, .slice a2 pa c2] 35 ∧ Blk wr (w.heap.size + 1) #[.int .i64 nx, .slice b1 la d1, .slice b2 pa d2] 35 ∧ Below w.heap.size w wr) (fun iv _ => pa - (intOf iv).toNat)
        case atStart => exact ⟨0, Nat.zero_le _, rfl, Lib.hid (by intro j h; omega), blkT, blkT, blwT⟩
        case round =>
          obtain ⟨k, hk, rfl, HI, kA, kB, hb⟩ := hrel
          have qA := kA.cell
          have qB := kB.cell
          have lA := kA.lt
          have lB := kB.lt
          by_cases hlt : k < pa
          · have i1 : (k : Int) < (pa : Int) := by omega
            have i2 : decide (k < pa) = true := decide_eq_true hlt
            obtain ⟨pp, hp⟩ : ∃ p, x.ps[k]? = some p := ⟨_, List.getElem?_eq_getElem (by rw [HPA.out]; exact hlt)⟩
            obtain ⟨qq, hq⟩ : ∃ q, y.ps[k]? = some q := ⟨_, List.getElem?_eq_getElem (by rw [HPB2.out]; exact hlt)⟩
            have hat := HNA.out k pp qq hp hq
            rcases HPS.out with ⟨_, _, _, h2⟩ | ⟨pb, po, pc, he, _, _, h4⟩
            · rw [h2] at hp; simp at hp
            obtain ⟨rfl, rfl⟩ : a2 = some ⟨pb, po, none⟩ ∧ c2 = pc := by
              simp only [Value.slice.injEq] at he
              exact ⟨he.1, he.2.2⟩
            rcases HQS.out with ⟨_, _, _, h2⟩ | ⟨qb, qo, qc, he', _, _, h4'⟩
            · rw [h2] at hq; simp at hq
            obtain ⟨rfl, rfl⟩ : b2 = some ⟨qb, qo, none⟩ ∧ d2 = qc := by
              simp only [Value.slice.injEq] at he'
              exact ⟨he'.1, he'.2.2⟩
            obtain ⟨p1, p2⟩ := (h4 k pp hp).by hb
            obtain ⟨q1, q2⟩ := (h4' k qq hq).by hb
            obtain ⟨name, net⟩ := pp
            obtain ⟨name', net'⟩ := qq
            dsimp only at p1 p2 q1 q2 hat
            have HAT := Lib.hid hat
            have lq := lt_of_cell q1
            dsimp only at lq
            have HKA := Lib.hid kA
            have HKB := Lib.hid kB
            clear hp hq hat he he' h4 h4' q2 kA kB
            cases hna : (name.toList == name'.toList) with
            | true =>
              rw [hna] at HAT
              go_wp2
              go_quiet (fail)
              go_wp2
              exact ⟨⟨k + 1, by omega, by go_num, Lib.hid (fun j hj => by
                by_cases e : j = k
                · rw [e]; exact HAT.out
                · exact HI.out j (by omega)), (HKA.out.past _).drewN _, (HKB.out.past _).drewN _, blwT⟩, by simp [intOf]; omega⟩
            | false =>
              rw [hna] at HAT
              have HNP := Lib.hid (show preB x y = false from by
                rw [HPB.out]
                have h1 := fstNo_at (f := namAt x.ps y.ps) (n := max x.ps.length y.ps.length) (k := k) (by rw [HMX.out]; exact hlt) HAT.out HI.out
                have h2 : ¬ namD x.ps y.ps = -1 := by
                  show ¬ fstNo (namAt x.ps y.ps) (max x.ps.length y.ps.length) = -1
                  rw [h1]; omega
                rw [decide_eq_false h2]; simp)
              go_wp2
              go_quiet (fail)
              go_wp2
              refine bodyPost_ret (v := .tuple #[]) (by simp [results, Tryz.results42, go_sem, *]) rfl ⟨rfl, HNO.out _ blwT HNP.out⟩
          · obtain rfl : pa = k := by omega
            have i1 : ¬ (pa : Int) < (pa : Int) := by omega
            have HPY := Lib.hid (show preB x y = true from by
              have h1 : namD x.ps y.ps = -1 := fstNo_none (fun i hi => HI.out i (by rw [HMX.out] at hi; exact hi))
              rw [HPB.out, decide_eq_true h1]; simp)
            clear hlt HI
            obtain ⟨n, rfl⟩ : ∃ n : Nat, nx = n := ⟨nx.toNat, by omega⟩
            have HPOx := Lib.hid (fun v w (h : NlV w v x) => (show Calls Tryz.prog 92 #[v] w fun e w' => ∃ v', e = .returned v' ∧ LlIn w' w.heap.size w'.heap.size v' (netL x n) ∧ Below w.heap.size w w' from by have := portsOf_any x v w h HX.out; rw [HNX.out, Int.toNat_natCast] at this; exact this))
            have HPOy := Lib.hid (fun v w (h : NlV w v y) => (show Calls Tryz.prog 92 #[v] w fun e w' => ∃ v', e = .returned v' ∧ LlIn w' w.heap.size w'.heap.size v' (netL y n) ∧ Below w.heap.size w w' from by have := portsOf_any y v w h HY.out; rw [HNY.out, Int.toNat_natCast] at this; exact this))
            have HLNx := Lib.hid (show (netL x n).length = n from by simp [netL])
            have HLNy := Lib.hid (show (netL y n).length = n from by simp [netL])
            have HRX := Lib.hid (fun v w h => refined_n x n HX.out HNX.out v w h)
            have HRY := Lib.hid (fun v w h => refined_n y n HY.out HNY.out v w h)
            have HPY3 := Lib.hid (show ∀ d ∈ y.ds, d.pins.length ≤ 3 ∧ 2 ≤ d.pins.length from fun d hd => by
              obtain ⟨_, _, _, hdy, _⟩ := nlB_facts HY.out
              have := dvB_pins (hdy d hd)
              exact ⟨this.1, this.2.1⟩)
            have HDY := Lib.hid (show DvSl w (.slice b1 la d1) y.ds from (nlV_dp HU.out).1)
            have HVz := Lib.hid (HV.out.by hb)
            have HUz := Lib.hid (HU.out.by hb)
            have HX' := HX
            have HNY2 := HNY
            have HNM := Lib.hid (fun kd wd ln sx pins w h hn => implNorm_any kd wd ln sx pins w h hn)
            go_upto_region 7 with fail
            go_cut [8] from 52 to 100 (fun mv wc => MtO wr wc n x y (fun U NA NB => #[.int .i64 (n : Int), .slice a1 la c1, .slice a2 pa c2, .int .i64 (n : Int), .slice b1 la d1, .slice b2 pa d2, .slice none 0 0, .slice none 0 0, .slice none 0 0, .slice none 0 0, .slice none 0 0, .slice none 0 0, .slice (some ⟨U, 0, none⟩) n n, .func (.func gY) #[] lY, .slice (some ⟨NA, 0, none⟩) n n, .slice (some ⟨NB, 0, none⟩) n n]) mv)
            case first =>
              have hbzwd : Below wr.heap.size wr wr.drew := (Below.refl _ wr).drew
              have kAwd : Blk wr.drew w.heap.size #[.int .i64 (n : Int), .slice a1 la c1, .slice a2 pa c2] 35 := kA.drew
              have kBwd : Blk wr.drew (w.heap.size + 1) #[.int .i64 (n : Int), .slice b1 la d1, .slice b2 pa d2] 35 := kB.drew
              have hswd := hbzwd.size
              have hS : (fun w' : World => Blk w' w.heap.size #[.int .i64 (n : Int), .slice a1 la c1, .slice a2 pa c2] 35 ∧ Blk w' (w.heap.size + 1) #[.int .i64 (n : Int), .slice b1 la d1, .slice b2 pa d2] 35) wr.drew := ⟨kAwd, kBwd⟩
              refine wp_region_any (by kernel_rfl) (wpAny_of_E (S := fun w' : World => Blk w' w.heap.size #[.int .i64 (n : Int), .slice a1 la c1, .slice a2 pa c2] 35 ∧ Blk w' (w.heap.size + 1) #[.int .i64 (n : Int), .slice b1 la d1, .slice b2 pa d2] 35) (l := 12) _ _ _ _ ?_)
              change wpAnyE _ _ _ _ _ _ _ _ _ wr.drew
              generalize wr.drew = wd at *
              refine wpAnyE_takeL (i := 0) (v := ?_) rfl (by kernel_rfl) (fun _ _ _ h => h) (Or.inl ⟨by rfl, ?_⟩) hS ?_
              rotate_left
              · intro w hSw; (try dsimp only at hSw); have qA := hSw.1.cell; have qB := hSw.2.cell; have lA := hSw.1.lt; have lB := hSw.2.lt; clear hSw; go_simp; (try with_reducible rfl)
              try simp only [Act.put, List.setIfInBounds_toArray, List.set_cons_zero, List.set_cons_succ]
              refine wpAnyE_takeL (i := 1) (v := ?_) rfl (by kernel_rfl) (fun _ _ _ h => h) (Or.inl ⟨by rfl, ?_⟩) hS ?_
              rotate_left
              · intro w hSw; (try dsimp only at hSw); have qA := hSw.1.cell; have qB := hSw.2.cell; have lA := hSw.1.lt; have lB := hSw.2.lt; clear hSw; go_simp; (try with_reducible rfl)
              try simp only [Act.put, List.setIfInBounds_toArray, List.set_cons_zero, List.set_cons_succ]
              refine wpAnyE_takeL (i := 2) (v := ?_) rfl (by kernel_rfl) (fun _ _ _ h => h) (Or.inl ⟨by rfl, ?_⟩) hS ?_
              rotate_left
              · intro w hSw; (try dsimp only at hSw); have qA := hSw.1.cell; have qB := hSw.2.cell; have lA := hSw.1.lt; have lB := hSw.2.lt; clear hSw; go_simp; (try with_reducible rfl)
              try simp only [Act.put, List.setIfInBounds_toArray, List.set_cons_zero, List.set_cons_succ]
              refine wpAnyE_takeL (i := 3) (v := ?_) rfl (by kernel_rfl) (fun _ _ _ h => h) (Or.inl ⟨by rfl, ?_⟩) hS ?_
              rotate_left
              · intro w hSw; (try dsimp only at hSw); have qA := hSw.1.cell; have qB := hSw.2.cell; have lA := hSw.1.lt; have lB := hSw.2.lt; clear hSw; go_simp; (try with_reducible rfl)
              try simp only [Act.put, List.setIfInBounds_toArray, List.set_cons_zero, List.set_cons_succ]
              refine wpAnyE_takeL (i := 5) (v := ?_) rfl (by kernel_rfl) (fun _ _ _ h => h) (Or.inl ⟨by rfl, ?_⟩) hS ?_
              rotate_left
              · intro w hSw; (try dsimp only at hSw); have qA := hSw.1.cell; have qB := hSw.2.cell; have lA := hSw.1.lt; have lB := hSw.2.lt; clear hSw; go_simp; (try with_reducible rfl)
              try simp only [Act.put, List.setIfInBounds_toArray, List.set_cons_zero, List.set_cons_succ]
              refine wpAnyE_takeL (i := 6) (v := ?_) rfl (by kernel_rfl) (fun _ _ _ h => h) (Or.inl ⟨by rfl, ?_⟩) hS ?_
              rotate_left
              · intro w hSw; (try dsimp only at hSw); have qA := hSw.1.cell; have qB := hSw.2.cell; have lA := hSw.1.lt; have lB := hSw.2.lt; clear hSw; go_simp; (try with_reducible rfl)
              try simp only [Act.put, List.setIfInBounds_toArray, List.set_cons_zero, List.set_cons_succ]
              refine wpAnyE_takeL (i := 8) (v := ?_) rfl (by kernel_rfl) (fun _ _ _ h => h) (Or.inl ⟨by rfl, ?_⟩) hS ?_
              rotate_left
              · intro w hSw; (try dsimp only at hSw); have qA := hSw.1.cell; have qB := hSw.2.cell; have lA := hSw.1.lt; have lB := hSw.2.lt; clear hSw; go_simp; (try with_reducible rfl)
              try simp only [Act.put, List.setIfInBounds_toArray, List.set_cons_zero, List.set_cons_succ]
              clear hS
              refine wpAnyE_twoL (k := 4) (k' := 7) (by kernel_rfl) rfl rfl (fun K hK => ?_) (fun K hK => ?_)
              · obtain ⟨cs0, hcs0, hcz, hmk⟩ := make_bools n (by omega) wd
                go_simp
                have hbm : Below wd.heap.size wd (wd.alloc (.cells cs0 4)) := (Below.refl _ wd).alloc (Nat.le_refl _) _
                have HUw4 := Lib.hid (show UsedB (wd.alloc (.cells cs0 4)) wd.heap.size n [] from ⟨cs0, Blk.new _ rfl, hcs0, fun j hj => by rw [hcz j hj]; rfl⟩)
                have hsxw4 : (wd.alloc (.cells cs0 4)).heap.size ≤ wd.heap.size + 1 := by simp
                have hsyw4 : wd.heap.size + 1 ≤ (wd.alloc (.cells cs0 4)).heap.size := by simp
                have kAw4 := Blk.by hbm kAwd
                have kBw4 := Blk.by hbm kBwd
                have hbzw4 := below_on hbm hbzwd
                have hsw4 := hbm.size
                obtain ⟨U, hUe⟩ : ∃ U, wd.heap.size = U := ⟨_, rfl⟩
                rw [hUe] at HUw4 ⊢
                have hU1 : wd.heap.size ≤ U := Nat.le_of_eq hUe
                have hU2 : U ≤ wd.heap.size := Nat.le_of_eq hUe.symm
                clear hUe hmk hcz hcs0 hbm
                generalize wd.alloc (.cells cs0 4) = w4 at *
                refine hK.out _ _ (fun _ => ⟨kAw4, kBw4⟩) ?_
                try simp only [Act.put, List.setIfInBounds_toArray, List.set_cons_zero, List.set_cons_succ]
                refine wpAnyE_oneL (k := 7) (by kernel_rfl) rfl (fun K hK => ?_)
                go_simp
                go_at_call 92
                refine (HPOx.out _ w4 (HVz.out.by hbzw4)).mono ?_
                rintro e w5 ⟨va, rfl, hLa, hba⟩
                obtain ⟨NA, _, hva, _⟩ := id hLa
                subst hva
                rw [HLNx.out] at hLa ⊢
                have HPaw5 := Lib.hid hLa
                have kAw5 := Blk.by hba kAw4
                have kBw5 := Blk.by hba kBw4
                have hbzw5 := below_on hba hbzw4
                have HUw5 := Lib.hid (HUw4.out.by hba)
                have hsw5 := hba.size
                obtain ⟨sa, hsea⟩ : ∃ z, w4.heap.size = z := ⟨_, rfl⟩
                obtain ⟨ta, htea⟩ : ∃ z, w5.heap.size = z := ⟨_, rfl⟩
                rw [hsea, htea] at HPaw5
                have hsAa : w4.heap.size ≤ sa := Nat.le_of_eq hsea
                have hsBa : sa ≤ w4.heap.size := Nat.le_of_eq hsea.symm
                have htAa : w5.heap.size ≤ ta := Nat.le_of_eq htea
                have htBa : ta ≤ w5.heap.size := Nat.le_of_eq htea.symm
                clear hLa hba hsea htea
                refine hK.out _ _ (fun _ => ⟨kAw5, kBw5⟩) ?_
                try simp only [Act.put, List.setIfInBounds_toArray, List.set_cons_zero, List.set_cons_succ]
                refine wpAnyE_oneL (k := 9) (by kernel_rfl) rfl (fun K hK => ?_)
                go_simp
                go_at_call 92
                refine (HPOy.out _ w5 (HUz.out.by hbzw5)).mono ?_
                rintro e w6 ⟨vb, rfl, hLb, hbb⟩
                obtain ⟨NB, _, hvb, _⟩ := id hLb
                subst hvb
                rw [HLNy.out] at hLb ⊢
                have HPbw6 := Lib.hid hLb
                have kAw6 := Blk.by hbb kAw5
                have kBw6 := Blk.by hbb kBw5
                have hbzw6 := below_on hbb hbzw5
                have HUw6 := Lib.hid (HUw5.out.by hbb)
                have HPaw6 := Lib.hid (HPaw5.out.by hbb)
                have hsw6 := hbb.size
                obtain ⟨sb, hseb⟩ : ∃ z, w5.heap.size = z := ⟨_, rfl⟩
                obtain ⟨tb, hteb⟩ : ∃ z, w6.heap.size = z := ⟨_, rfl⟩
                rw [hseb, hteb] at HPbw6
                have hsAb : w5.heap.size ≤ sb := Nat.le_of_eq hseb
                have hsBb : sb ≤ w5.heap.size := Nat.le_of_eq hseb.symm
                have htAb : w6.heap.size ≤ tb := Nat.le_of_eq hteb
                have htBb : tb ≤ w6.heap.size := Nat.le_of_eq hteb.symm
                clear hLb hbb hseb hteb
                refine hK.out _ _ (fun _ => ⟨kAw6, kBw6⟩) ?_
                try simp only [Act.put, List.setIfInBounds_toArray, List.set_cons_zero, List.set_cons_succ]
                refine wpAnyE_oneL (k := 10) (by kernel_rfl) rfl (fun K hK => ?_)
                go_simp
                refine hK.out _ _ (fun _ => ⟨kAw6, kBw6⟩) ?_
                try simp only [Act.put, List.setIfInBounds_toArray, List.set_cons_zero, List.set_cons_succ]
                refine wpAnyE_oneL (k := 11) (by kernel_rfl) rfl (fun K hK => ?_)
                go_simp
                have kM9 : Blk (w6.alloc (.cells #[.int .i64 (n : Int), .slice a1 la c1, .slice a2 pa c2, .int .i64 (n : Int), .slice b1 la d1, .slice b2 pa d2, .slice none 0 0, .slice none 0 0, .slice none 0 0, .slice none 0 0, .slice none 0 0, .slice none 0 0, .slice (some ⟨U, 0, none⟩) n n, .func (.func gY) #[] lY, .slice (some ⟨NA, 0, none⟩) n n, .slice (some ⟨NB, 0, none⟩) n n] 127)) w6.heap.size #[.int .i64 (n : Int), .slice a1 la c1, .slice a2 pa c2, .int .i64 (n : Int), .slice b1 la d1, .slice b2 pa d2, .slice none 0 0, .slice none 0 0, .slice none 0 0, .slice none 0 0, .slice none 0 0, .slice none 0 0, .slice (some ⟨U, 0, none⟩) n n, .func (.func gY) #[] lY, .slice (some ⟨NA, 0, none⟩) n n, .slice (some ⟨NB, 0, none⟩) n n] 127 := Blk.new _ rfl
                have hb9 : Below w6.heap.size w6 (w6.alloc (.cells #[.int .i64 (n : Int), .slice a1 la c1, .slice a2 pa c2, .int .i64 (n : Int), .slice b1 la d1, .slice b2 pa d2, .slice none 0 0, .slice none 0 0, .slice none 0 0, .slice none 0 0, .slice none 0 0, .slice none 0 0, .slice (some ⟨U, 0, none⟩) n n, .func (.func gY) #[] lY, .slice (some ⟨NA, 0, none⟩) n n, .slice (some ⟨NB, 0, none⟩) n n] 127)) := (Below.refl _ w6).alloc (Nat.le_refl _) _
                have hs9 : (w6.alloc (.cells #[.int .i64 (n : Int), .slice a1 la c1, .slice a2 pa c2, .int .i64 (n : Int), .slice b1 la d1, .slice b2 pa d2, .slice none 0 0, .slice none 0 0, .slice none 0 0, .slice none 0 0, .slice none 0 0, .slice none 0 0, .slice (some ⟨U, 0, none⟩) n n, .func (.func gY) #[] lY, .slice (some ⟨NA, 0, none⟩) n n, .slice (some ⟨NB, 0, none⟩) n n] 127)).heap.size ≤ w6.heap.size + 1 := by simp
                have hs8 : w6.heap.size + 1 ≤ (w6.alloc (.cells #[.int .i64 (n : Int), .slice a1 la c1, .slice a2 pa c2, .int .i64 (n : Int), .slice b1 la d1, .slice b2 pa d2, .slice none 0 0, .slice none 0 0, .slice none 0 0, .slice none 0 0, .slice none 0 0, .slice none 0 0, .slice (some ⟨U, 0, none⟩) n n, .func (.func gY) #[] lY, .slice (some ⟨NA, 0, none⟩) n n, .slice (some ⟨NB, 0, none⟩) n n] 127)).heap.size := by simp
                have kAw9 := Blk.by hb9 kAw6
                have kBw9 := Blk.by hb9 kBw6
                have hbzw9 := below_on hb9 hbzw6
                have HUw9 := Lib.hid (HUw6.out.by hb9)
                have HPaw9 := Lib.hid (HPaw6.out.by hb9)
                have HPbw9 := Lib.hid (HPbw6.out.by hb9)
                have hsw9 := hb9.size
                obtain ⟨M, hMe⟩ : ∃ M, w6.heap.size = M := ⟨_, rfl⟩
                rw [hMe] at kM9 ⊢
                have hM1 : w6.heap.size ≤ M := Nat.le_of_eq hMe
                have hM2 : M ≤ w6.heap.size := Nat.le_of_eq hMe.symm
                clear hb9 hMe
                generalize w6.alloc (.cells #[.int .i64 (n : Int), .slice a1 la c1, .slice a2 pa c2, .int .i64 (n : Int), .slice b1 la d1, .slice b2 pa d2, .slice none 0 0, .slice none 0 0, .slice none 0 0, .slice none 0 0, .slice none 0 0, .slice none 0 0, .slice (some ⟨U, 0, none⟩) n n, .func (.func gY) #[] lY, .slice (some ⟨NA, 0, none⟩) n n, .slice (some ⟨NB, 0, none⟩) n n] 127) = w9 at *
                refine hK.out _ _ (fun _ => ⟨kAw9, kBw9⟩) ?_
                try simp only [Act.put, List.setIfInBounds_toArray, List.set_cons_zero, List.set_cons_succ]
                refine wpAnyE_oneL (k := 12) (by kernel_rfl) rfl (fun K hK => ?_)
                go_simp
                refine hK.out _ _ (fun h => absurd rfl h) ?_
                refine wpAnyE_done (by kernel_rfl) ?_ _
                go_wp2
                go_meet
                exact ⟨M, U, NA, NB, sa, ta, sb, tb, rfl, kM9, HUw9.out, HPaw9.out, HPbw9.out, by omega, fun k h1 h2 => ⟨by omega, by omega⟩, fun k h1 h2 => ⟨by omega, by omega⟩, ⟨by omega, by omega, by omega, by omega⟩, ⟨by omega, by omega, by omega, by omega⟩, hbzw9⟩
              · go_simp
                go_at_call 92
                refine (HPOx.out _ wd (HVz.out.by hbzwd)).mono ?_
                rintro e w4 ⟨va, rfl, hLa, hba⟩
                obtain ⟨NA, _, hva, _⟩ := id hLa
                subst hva
                rw [HLNx.out] at hLa ⊢
                have HPaw4 := Lib.hid hLa
                have kAw4 := Blk.by hba kAwd
                have kBw4 := Blk.by hba kBwd
                have hbzw4 := below_on hba hbzwd
                have hsw4 := hba.size
                obtain ⟨sa, hsea⟩ : ∃ z, wd.heap.size = z := ⟨_, rfl⟩
                obtain ⟨ta, htea⟩ : ∃ z, w4.heap.size = z := ⟨_, rfl⟩
                rw [hsea, htea] at HPaw4
                have hsAa : wd.heap.size ≤ sa := Nat.le_of_eq hsea
                have hsBa : sa ≤ wd.heap.size := Nat.le_of_eq hsea.symm
                have htAa : w4.heap.size ≤ ta := Nat.le_of_eq htea
                have htBa : ta ≤ w4.heap.size := Nat.le_of_eq htea.symm
                clear hLa hba hsea htea
                refine hK.out _ _ (fun _ => ⟨kAw4, kBw4⟩) ?_
                try simp only [Act.put, List.setIfInBounds_toArray, List.set_cons_zero, List.set_cons_succ]
                refine wpAnyE_twoL (k := 4) (k' := 9) (by kernel_rfl) rfl rfl (fun K hK => ?_) (fun K hK => ?_)
                · obtain ⟨cs0, hcs0, hcz, hmk⟩ := make_bools n (by omega) w4
                  go_simp
                  have hbm : Below w4.heap.size w4 (w4.alloc (.cells cs0 4)) := (Below.refl _ w4).alloc (Nat.le_refl _) _
                  have HUw5 := Lib.hid (show UsedB (w4.alloc (.cells cs0 4)) w4.heap.size n [] from ⟨cs0, Blk.new _ rfl, hcs0, fun j hj => by rw [hcz j hj]; rfl⟩)
                  have hsxw5 : (w4.alloc (.cells cs0 4)).heap.size ≤ w4.heap.size + 1 := by simp
                  have hsyw5 : w4.heap.size + 1 ≤ (w4.alloc (.cells cs0 4)).heap.size := by simp
                  have kAw5 := Blk.by hbm kAw4
                  have kBw5 := Blk.by hbm kBw4
                  have hbzw5 := below_on hbm hbzw4
                  have HPaw5 := Lib.hid (HPaw4.out.by hbm)
                  have hsw5 := hbm.size
                  obtain ⟨U, hUe⟩ : ∃ U, w4.heap.size = U := ⟨_, rfl⟩
                  rw [hUe] at HUw5 ⊢
                  have hU1 : w4.heap.size ≤ U := Nat.le_of_eq hUe
                  have hU2 : U ≤ w4.heap.size := Nat.le_of_eq hUe.symm
                  clear hUe hmk hcz hcs0 hbm
                  generalize w4.alloc (.cells cs0 4) = w5 at *
                  refine hK.out _ _ (fun _ => ⟨kAw5, kBw5⟩) ?_
                  try simp only [Act.put, List.setIfInBounds_toArray, List.set_cons_zero, List.set_cons_succ]
                  refine wpAnyE_oneL (k := 9) (by kernel_rfl) rfl (fun K hK => ?_)
                  go_simp
                  go_at_call 92
                  refine (HPOy.out _ w5 (HUz.out.by hbzw5)).mono ?_
                  rintro e w6 ⟨vb, rfl, hLb, hbb⟩
                  obtain ⟨NB, _, hvb, _⟩ := id hLb
                  subst hvb
                  rw [HLNy.out] at hLb ⊢
                  have HPbw6 := Lib.hid hLb
                  have kAw6 := Blk.by hbb kAw5
                  have kBw6 := Blk.by hbb kBw5
                  have hbzw6 := below_on hbb hbzw5
                  have HUw6 := Lib.hid (HUw5.out.by hbb)
                  have HPaw6 := Lib.hid (HPaw5.out.by hbb)
                  have hsw6 := hbb.size
                  obtain ⟨sb, hseb⟩ : ∃ z, w5.heap.size = z := ⟨_, rfl⟩
                  obtain ⟨tb, hteb⟩ : ∃ z, w6.heap.size = z := ⟨_, rfl⟩
                  rw [hseb, hteb] at HPbw6
                  have hsAb : w5.heap.size ≤ sb := Nat.le_of_eq hseb
                  have hsBb : sb ≤ w5.heap.size := Nat.le_of_eq hseb.symm
                  have htAb : w6.heap.size ≤ tb := Nat.le_of_eq hteb
                  have htBb : tb ≤ w6.heap.size := Nat.le_of_eq hteb.symm
                  clear hLb hbb hseb hteb
                  refine hK.out _ _ (fun _ => ⟨kAw6, kBw6⟩) ?_
                  try simp only [Act.put, List.setIfInBounds_toArray, List.set_cons_zero, List.set_cons_succ]
                  refine wpAnyE_oneL (k := 10) (by kernel_rfl) rfl (fun K hK => ?_)
                  go_simp
                  refine hK.out _ _ (fun _ => ⟨kAw6, kBw6⟩) ?_
                  try simp only [Act.put, List.setIfInBounds_toArray, List.set_cons_zero, List.set_cons_succ]
                  refine wpAnyE_oneL (k := 11) (by kernel_rfl) rfl (fun K hK => ?_)
                  go_simp
                  have kM9 : Blk (w6.alloc (.cells #[.int .i64 (n : Int), .slice a1 la c1, .slice a2 pa c2, .int .i64 (n : Int), .slice b1 la d1, .slice b2 pa d2, .slice none 0 0, .slice none 0 0, .slice none 0 0, .slice none 0 0, .slice none 0 0, .slice none 0 0, .slice (some ⟨U, 0, none⟩) n n, .func (.func gY) #[] lY, .slice (some ⟨NA, 0, none⟩) n n, .slice (some ⟨NB, 0, none⟩) n n] 127)) w6.heap.size #[.int .i64 (n : Int), .slice a1 la c1, .slice a2 pa c2, .int .i64 (n : Int), .slice b1 la d1, .slice b2 pa d2, .slice none 0 0, .slice none 0 0, .slice none 0 0, .slice none 0 0, .slice none 0 0, .slice none 0 0, .slice (some ⟨U, 0, none⟩) n n, .func (.func gY) #[] lY, .slice (some ⟨NA, 0, none⟩) n n, .slice (some ⟨NB, 0, none⟩) n n] 127 := Blk.new _ rfl
                  have hb9 : Below w6.heap.size w6 (w6.alloc (.cells #[.int .i64 (n : Int), .slice a1 la c1, .slice a2 pa c2, .int .i64 (n : Int), .slice b1 la d1, .slice b2 pa d2, .slice none 0 0, .slice none 0 0, .slice none 0 0, .slice none 0 0, .slice none 0 0, .slice none 0 0, .slice (some ⟨U, 0, none⟩) n n, .func (.func gY) #[] lY, .slice (some ⟨NA, 0, none⟩) n n, .slice (some ⟨NB, 0, none⟩) n n] 127)) := (Below.refl _ w6).alloc (Nat.le_refl _) _
                  have hs9 : (w6.alloc (.cells #[.int .i64 (n : Int), .slice a1 la c1, .slice a2 pa c2, .int .i64 (n : Int), .slice b1 la d1, .slice b2 pa d2, .slice none 0 0, .slice none 0 0, .slice none 0 0, .slice none 0 0, .slice none 0 0, .slice none 0 0, .slice (some ⟨U, 0, none⟩) n n, .func (.func gY) #[] lY, .slice (some ⟨NA, 0, none⟩) n n, .slice (some ⟨NB, 0, none⟩) n n] 127)).heap.size ≤ w6.heap.size + 1 := by simp
                  have hs8 : w6.heap.size + 1 ≤ (w6.alloc (.cells #[.int .i64 (n : Int), .slice a1 la c1, .slice a2 pa c2, .int .i64 (n : Int), .slice b1 la d1, .slice b2 pa d2, .slice none 0 0, .slice none 0 0, .slice none 0 0, .slice none 0 0, .slice none 0 0, .slice none 0 0, .slice (some ⟨U, 0, none⟩) n n, .func (.func gY) #[] lY, .slice (some ⟨NA, 0, none⟩) n n, .slice (some ⟨NB, 0, none⟩) n n] 127)).heap.size := by simp
                  have kAw9 := Blk.by hb9 kAw6
                  have kBw9 := Blk.by hb9 kBw6
                  have hbzw9 := below_on hb9 hbzw6
                  have HUw9 := Lib.hid (HUw6.out.by hb9)
                  have HPaw9 := Lib.hid (HPaw6.out.by hb9)
                  have HPbw9 := Lib.hid (HPbw6.out.by hb9)
                  have hsw9 := hb9.size
                  obtain ⟨M, hMe⟩ : ∃ M, w6.heap.size = M := ⟨_, rfl⟩
                  rw [hMe] at kM9 ⊢
                  have hM1 : w6.heap.size ≤ M := Nat.le_of_eq hMe
                  have hM2 : M ≤ w6.heap.size := Nat.le_of_eq hMe.symm
                  clear hb9 hMe
                  generalize w6.alloc (.cells #[.int .i64 (n : Int), .slice a1 la c1, .slice a2 pa c2, .int .i64 (n : Int), .slice b1 la d1, .slice b2 pa d2, .slice none 0 0, .slice none 0 0, .slice none 0 0, .slice none 0 0, .slice none 0 0, .slice none 0 0, .slice (some ⟨U, 0, none⟩) n n, .func (.func gY) #[] lY, .slice (some ⟨NA, 0, none⟩) n n, .slice (some ⟨NB, 0, none⟩) n n] 127) = w9 at *
                  refine hK.out _ _ (fun _ => ⟨kAw9, kBw9⟩) ?_
                  try simp only [Act.put, List.setIfInBounds_toArray, List.set_cons_zero, List.set_cons_succ]
                  refine wpAnyE_oneL (k := 12) (by kernel_rfl) rfl (fun K hK => ?_)
                  go_simp
                  refine hK.out _ _ (fun h => absurd rfl h) ?_
                  refine wpAnyE_done (by kernel_rfl) ?_ _
                  go_wp2
                  go_meet
                  exact ⟨M, U, NA, NB, sa, ta, sb, tb, rfl, kM9, HUw9.out, HPaw9.out, HPbw9.out, by omega, fun k h1 h2 => ⟨by omega, by omega⟩, fun k h1 h2 => ⟨by omega, by omega⟩, ⟨by omega, by omega, by omega, by omega⟩, ⟨by omega, by omega, by omega, by omega⟩, hbzw9⟩
                · go_simp
                  go_at_call 92
                  refine (HPOy.out _ w4 (HUz.out.by hbzw4)).mono ?_
                  rintro e w5 ⟨vb, rfl, hLb, hbb⟩
                  obtain ⟨NB, _, hvb, _⟩ := id hLb
                  subst hvb
                  rw [HLNy.out] at hLb ⊢
                  have HPbw5 := Lib.hid hLb
                  have kAw5 := Blk.by hbb kAw4
                  have kBw5 := Blk.by hbb kBw4
                  have hbzw5 := below_on hbb hbzw4
                  have HPaw5 := Lib.hid (HPaw4.out.by hbb)
                  have hsw5 := hbb.size
                  obtain ⟨sb, hseb⟩ : ∃ z, w4.heap.size = z := ⟨_, rfl⟩
                  obtain ⟨tb, hteb⟩ : ∃ z, w5.heap.size = z := ⟨_, rfl⟩
                  rw [hseb, hteb] at HPbw5
                  have hsAb : w4.heap.size ≤ sb := Nat.le_of_eq hseb
                  have hsBb : sb ≤ w4.heap.size := Nat.le_of_eq hseb.symm
                  have htAb : w5.heap.size ≤ tb := Nat.le_of_eq hteb
                  have htBb : tb ≤ w5.heap.size := Nat.le_of_eq hteb.symm
                  clear hLb hbb hseb hteb
                  refine hK.out _ _ (fun _ => ⟨kAw5, kBw5⟩) ?_
                  try simp only [Act.put, List.setIfInBounds_toArray, List.set_cons_zero, List.set_cons_succ]
                  refine wpAnyE_oneL (k := 4) (by kernel_rfl) rfl (fun K hK => ?_)
                  obtain ⟨cs0, hcs0, hcz, hmk⟩ := make_bools n (by omega) w5
                  go_simp
                  have hbm : Below w5.heap.size w5 (w5.alloc (.cells cs0 4)) := (Below.refl _ w5).alloc (Nat.le_refl _) _
                  have HUw6 := Lib.hid (show UsedB (w5.alloc (.cells cs0 4)) w5.heap.size n [] from ⟨cs0, Blk.new _ rfl, hcs0, fun j hj => by rw [hcz j hj]; rfl⟩)
                  have hsxw6 : (w5.alloc (.cells cs0 4)).heap.size ≤ w5.heap.size + 1 := by simp
                  have hsyw6 : w5.heap.size + 1 ≤ (w5.alloc (.cells cs0 4)).heap.size := by simp
                  have kAw6 := Blk.by hbm kAw5
                  have kBw6 := Blk.by hbm kBw5
                  have hbzw6 := below_on hbm hbzw5
                  have HPaw6 := Lib.hid (HPaw5.out.by hbm)
                  have HPbw6 := Lib.hid (HPbw5.out.by hbm)
                  have hsw6 := hbm.size
                  obtain ⟨U, hUe⟩ : ∃ U, w5.heap.size = U := ⟨_, rfl⟩
                  rw [hUe] at HUw6 ⊢
                  have hU1 : w5.heap.size ≤ U := Nat.le_of_eq hUe
                  have hU2 : U ≤ w5.heap.size := Nat.le_of_eq hUe.symm
                  clear hUe hmk hcz hcs0 hbm
                  generalize w5.alloc (.cells cs0 4) = w6 at *
                  refine hK.out _ _ (fun _ => ⟨kAw6, kBw6⟩) ?_
                  try simp only [Act.put, List.setIfInBounds_toArray, List.set_cons_zero, List.set_cons_succ]
                  refine wpAnyE_oneL (k := 10) (by kernel_rfl) rfl (fun K hK => ?_)
                  go_simp
                  refine hK.out _ _ (fun _ => ⟨kAw6, kBw6⟩) ?_
                  try simp only [Act.put, List.setIfInBounds_toArray, List.set_cons_zero, List.set_cons_succ]
                  refine wpAnyE_oneL (k := 11) (by kernel_rfl) rfl (fun K hK => ?_)
                  go_simp
                  have kM9 : Blk (w6.alloc (.cells #[.int .i64 (n : Int), .slice a1 la c1, .slice a2 pa c2, .int .i64 (n : Int), .slice b1 la d1, .slice b2 pa d2, .slice none 0 0, .slice none 0 0, .slice none 0 0, .slice none 0 0, .slice none 0 0, .slice none 0 0, .slice (some ⟨U, 0, none⟩) n n, .func (.func gY) #[] lY, .slice (some ⟨NA, 0, none⟩) n n, .slice (some ⟨NB, 0, none⟩) n n] 127)) w6.heap.size #[.int .i64 (n : Int), .slice a1 la c1, .slice a2 pa c2, .int .i64 (n : Int), .slice b1 la d1, .slice b2 pa d2, .slice none 0 0, .slice none 0 0, .slice none 0 0, .slice none 0 0, .slice none 0 0, .slice none 0 0, .slice (some ⟨U, 0, none⟩) n n, .func (.func gY) #[] lY, .slice (some ⟨NA, 0, none⟩) n n, .slice (some ⟨NB, 0, none⟩) n n] 127 := Blk.new _ rfl
                  have hb9 : Below w6.heap.size w6 (w6.alloc (.cells #[.int .i64 (n : Int), .slice a1 la c1, .slice a2 pa c2, .int .i64 (n : Int), .slice b1 la d1, .slice b2 pa d2, .slice none 0 0, .slice none 0 0, .slice none 0 0, .slice none 0 0, .slice none 0 0, .slice none 0 0, .slice (some ⟨U, 0, none⟩) n n, .func (.func gY) #[] lY, .slice (some ⟨NA, 0, none⟩) n n, .slice (some ⟨NB, 0, none⟩) n n] 127)) := (Below.refl _ w6).alloc (Nat.le_refl _) _
                  have hs9 : (w6.alloc (.cells #[.int .i64 (n : Int), .slice a1 la c1, .slice a2 pa c2, .int .i64 (n : Int), .slice b1 la d1, .slice b2 pa d2, .slice none 0 0, .slice none 0 0, .slice none 0 0, .slice none 0 0, .slice none 0 0, .slice none 0 0, .slice (some ⟨U, 0, none⟩) n n, .func (.func gY) #[] lY, .slice (some ⟨NA, 0, none⟩) n n, .slice (some ⟨NB, 0, none⟩) n n] 127)).heap.size ≤ w6.heap.size + 1 := by simp
                  have hs8 : w6.heap.size + 1 ≤ (w6.alloc (.cells #[.int .i64 (n : Int), .slice a1 la c1, .slice a2 pa c2, .int .i64 (n : Int), .slice b1 la d1, .slice b2 pa d2, .slice none 0 0, .slice none 0 0, .slice none 0 0, .slice none 0 0, .slice none 0 0, .slice none 0 0, .slice (some ⟨U, 0, none⟩) n n, .func (.func gY) #[] lY, .slice (some ⟨NA, 0, none⟩) n n, .slice (some ⟨NB, 0, none⟩) n n] 127)).heap.size := by simp
                  have kAw9 := Blk.by hb9 kAw6
                  have kBw9 := Blk.by hb9 kBw6
                  have hbzw9 := below_on hb9 hbzw6
                  have HUw9 := Lib.hid (HUw6.out.by hb9)
                  have HPaw9 := Lib.hid (HPaw6.out.by hb9)
                  have HPbw9 := Lib.hid (HPbw6.out.by hb9)
                  have hsw9 := hb9.size
                  obtain ⟨M, hMe⟩ : ∃ M, w6.heap.size = M := ⟨_, rfl⟩
                  rw [hMe] at kM9 ⊢
                  have hM1 : w6.heap.size ≤ M := Nat.le_of_eq hMe
                  have hM2 : M ≤ w6.heap.size := Nat.le_of_eq hMe.symm
                  clear hb9 hMe
                  generalize w6.alloc (.cells #[.int .i64 (n : Int), .slice a1 la c1, .slice a2 pa c2, .int .i64 (n : Int), .slice b1 la d1, .slice b2 pa d2, .slice none 0 0, .slice none 0 0, .slice none 0 0, .slice none 0 0, .slice none 0 0, .slice none 0 0, .slice (some ⟨U, 0, none⟩) n n, .func (.func gY) #[] lY, .slice (some ⟨NA, 0, none⟩) n n, .slice (some ⟨NB, 0, none⟩) n n] 127) = w9 at *
                  refine hK.out _ _ (fun _ => ⟨kAw9, kBw9⟩) ?_
                  try simp only [Act.put, List.setIfInBounds_toArray, List.set_cons_zero, List.set_cons_succ]
                  refine wpAnyE_oneL (k := 12) (by kernel_rfl) rfl (fun K hK => ?_)
                  go_simp
                  refine hK.out _ _ (fun h => absurd rfl h) ?_
                  refine wpAnyE_done (by kernel_rfl) ?_ _
                  go_wp2
                  go_meet
                  exact ⟨M, U, NA, NB, sa, ta, sb, tb, rfl, kM9, HUw9.out, HPaw9.out, HPbw9.out, by omega, fun k h1 h2 => ⟨by omega, by omega⟩, fun k h1 h2 => ⟨by omega, by omega⟩, ⟨by omega, by omega, by omega, by omega⟩, ⟨by omega, by omega, by omega, by omega⟩, hbzw9⟩
            case rest =>
              obtain ⟨M, U, NA, NB, la1, ha1, lb1, hb1, rfl, kM, hU, hLA, hLB, hMU, hra, hrb, ⟨z1, z2, z3, z4⟩, ⟨z5, z6, z7, z8⟩, hbc⟩ := hcut
              dsimp only at kM
              have HUx := Lib.hid hU
              have HLAx := Lib.hid hLA
              have HLBx := Lib.hid hLB
              have HRA := Lib.hid hra
              have HRB := Lib.hid hrb
              have kAc := Blk.by hbc kA
              have kBc := Blk.by hbc kB
              have hbw := below_on hbc hb
              have hsw := hb.size
              have hBl := kB.lt
              have qA := kAc.cell
              have lA := kAc.lt
              clear hU hLA hLB hra hrb hbc kA kB hb
              go_wp2_with fail
              refine (HRX.out _ wc (HV.out.by hbw)).mono ?_
              rintro e w1 ⟨sa, sc, ta, LA, tc, qa, rfl, hO1, hO2, hL1, hb1'⟩
              have HO1 := Lib.hid hO1
              have kM1 := Blk.by hb1' kM
              have kB1 := Blk.by hb1' kBc
              have hs1 := hb1'.size
              have hbw1 := below_on hb1' hbw
              have HU1 := Lib.hid (HUx.out.by hb1')
              have HLA1 := Lib.hid (HLAx.out.by hb1')
              have HLB1 := Lib.hid (HLBx.out.by hb1')
              have cM1 := kM1.cell
              have fM1 := kM1.free
              have lM1 := kM1.lt
              have cB1 := kB1.cell
              have lB1 := kB1.lt
              have hMB : ¬ M = w.heap.size + 1 := by omega
              have hMB' : ¬ w.heap.size + 1 = M := by omega
              clear hO1 hO2 hL1 kM hb1' qA lA HUx HLAx HLBx kBc kAc hbw
              go_wp2_with fail
              have kM2 : Blk ((w1.setCell ⟨M, 6, none⟩ (.slice sa n sc)).setCell ⟨M, 7, none⟩ (.slice ta LA tc)) M #[.int .i64 (n : Int), .slice a1 la c1, .slice a2 pa c2, .int .i64 (n : Int), .slice b1 la d1, .slice b2 pa d2, .slice sa n sc, .slice ta LA tc, .slice none 0 0, .slice none 0 0, .slice none 0 0, .slice none 0 0, .slice (some ⟨U, 0, none⟩) n n, .func (.func gY) #[] lY, .slice (some ⟨NA, 0, none⟩) n n, .slice (some ⟨NB, 0, none⟩) n n] 127 := (kM1.set 6 _).set 7 _
              have hX2 : Exc (fun b => b = M) w1 ((w1.setCell ⟨M, 6, none⟩ (.slice sa n sc)).setCell ⟨M, 7, none⟩ (.slice ta LA tc)) := (Exc.set (E := fun b => b = M) (Exc.refl _ w1) M 6 _ (fun _ => rfl)).set M 7 _ (fun _ => rfl)
              have hs2 : w1.heap.size ≤ ((w1.setCell ⟨M, 6, none⟩ (.slice sa n sc)).setCell ⟨M, 7, none⟩ (.slice ta LA tc)).heap.size := by simp
              generalize (w1.setCell ⟨M, 6, none⟩ (.slice sa n sc)).setCell ⟨M, 7, none⟩ (.slice ta LA tc) = w2 at *
              have kB2 := hX2.blk kB1 hMB'
              have hbw2 : Below w.heap.size w w2 := hX2.below hbw1 (fun k hk (e : k = M) => by omega)
              have HX2 := Lib.hid hX2
              clear hX2 kM1 cM1 fM1 lM1 cB1 lB1 kB1
              refine (HRY.out _ w2 (HU.out.by hbw2)).mono ?_
              rintro e w3 ⟨sb, sd, tb, LB, td, qb, rfl, hO3, hO4, hL3, hb3⟩
              have HO3 := Lib.hid hO3
              have kM3 := Blk.by hb3 kM2
              have kB3 := Blk.by hb3 kB2
              have hs3 := hb3.size
              have hbw3 := below_on hb3 hbw2
              have HX3 := Lib.hid (HX2.out.on (Exc.ofBelow (E := fun b => b = M) hb3))
              have cM3 := kM3.cell
              have fM3 := kM3.free
              have lM3 := kM3.lt
              have cB3 := kB3.cell
              have lB3 := kB3.lt
              clear hO3 hO4 hL3 hb3 kM2 kB2 HX2
              go_upto_region 10 with fail
              have kM4 : Blk ((w3.setCell ⟨M, 8, none⟩ (.slice sb n sd)).setCell ⟨M, 9, none⟩ (.slice tb LB td)) M #[.int .i64 (n : Int), .slice a1 la c1, .slice a2 pa c2, .int .i64 (n : Int), .slice b1 la d1, .slice b2 pa d2, .slice sa n sc, .slice ta LA tc, .slice sb n sd, .slice tb LB td, .slice none 0 0, .slice none 0 0, .slice (some ⟨U, 0, none⟩) n n, .func (.func gY) #[] lY, .slice (some ⟨NA, 0, none⟩) n n, .slice (some ⟨NB, 0, none⟩) n n] 127 := (kM3.set 8 _).set 9 _
              have hX4 : Exc (fun b => b = M) w3 ((w3.setCell ⟨M, 8, none⟩ (.slice sb n sd)).setCell ⟨M, 9, none⟩ (.slice tb LB td)) := (Exc.set (E := fun b => b = M) (Exc.refl _ w3) M 8 _ (fun _ => rfl)).set M 9 _ (fun _ => rfl)
              have hs4 : w3.heap.size ≤ ((w3.setCell ⟨M, 8, none⟩ (.slice sb n sd)).setCell ⟨M, 9, none⟩ (.slice tb LB td)).heap.size := by simp
              generalize (w3.setCell ⟨M, 8, none⟩ (.slice sb n sd)).setCell ⟨M, 9, none⟩ (.slice tb LB td) = wD at *
              have kB4 := hX4.blk kB3 hMB'
              have hbw4 : Below w.heap.size w wD := hX4.below hbw3 (fun k hk (e : k = M) => by omega)
              have HX14 := Lib.hid (HX3.out.on hX4)
              have HO14 := Lib.hid (OwnR.exc HX14.out HO1.out (fun k h1 h2 (e : k = M) => by omega))
              have HO34 := Lib.hid (OwnR.exc hX4 HO3.out (fun k h1 h2 (e : k = M) => by omega))
              have HU4 := Lib.hid (UsedB.exc HX14.out HU1.out (fun (e : U = M) => hMU e.symm))
              have HLA4 := Lib.hid (HLA1.out.exc HX14.out (fun k h1 h2 (e : k = M) => (HRA.out k h1 h2).1 e))
              have HLB4 := Lib.hid (HLB1.out.exc HX14.out (fun k h1 h2 (e : k = M) => (HRB.out k h1 h2).1 e))
              have cB4 := kB4.cell
              have lB4 := kB4.lt
              have hMD : M < wD.heap.size := by omega
              clear hX4 HX14 HX3 HU1 HLA1 HLB1 HO1 HO3 kM3 cM3 fM3 lM3 cB3 lB3 kB3
              have HTK0 := Lib.hid (show (y.ds.map nzD).take 0 = [] from rfl)
              go_wp2
              clear cB4 lB4
              go_loopw [83] (fun iv wr => ∃ (k hi c : Nat) (ga : Option Addr), k ≤ la ∧ iv = .int .i64 (k : Int) ∧ Blk wr M #[.int .i64 (n : Int), .slice a1 la c1, .slice a2 pa c2, .int .i64 (n : Int), .slice b1 la d1, .slice b2 pa d2, .slice sa n sc, .slice ta LA tc, .slice sb n sd, .slice tb LB td, .slice ga k c, .slice none 0 0, .slice (some ⟨U, 0, none⟩) n n, .func (.func gY) #[] lY, .slice (some ⟨NA, 0, none⟩) n n, .slice (some ⟨NB, 0, none⟩) n n] 127 ∧ Hid (Bld wr wD.heap.size hi (.slice ga k c) ((y.ds.map nzD).take k)) ∧ wD.heap.size ≤ hi ∧ hi ≤ wr.heap.size ∧ Blk wr (w.heap.size + 1) #[.int .i64 (n : Int), .slice b1 la d1, .slice b2 pa d2] 35 ∧ Hid (Exc (fun b => b = M) wD wr)) (fun iv _ => la - (intOf iv).toNat)
              case atStart => exact ⟨0, wD.heap.size, 0, none, Nat.zero_le _, rfl, kM4, Lib.hid (by rw [HTK0.out]; exact Bld.nil wD _), Nat.le_refl _, Nat.le_refl _, kB4, Lib.hid (Exc.refl _ _)⟩
              case round =>
                clear kM4 kB4
                obtain ⟨k, hi, c, ga, hk, rfl, kM, HB, hhi, hhs, kB, HX⟩ := hrel
                have hbr : Below w.heap.size w wr := HX.out.below hbw4 (fun k hk (e : k = M) => by omega)
                have hsr := HX.out.size
                by_cases hlt : k < la
                · have i1 : (k : Int) < (la : Int) := by omega
                  have i2 : decide (k < la) = true := decide_eq_true hlt
                  obtain ⟨d, hd⟩ : ∃ d, y.ds[k]? = some d := ⟨_, List.getElem?_eq_getElem (by rw [HLB.out]; exact hlt)⟩
                  have hpd := HPY3.out d (List.mem_of_getElem? hd)
                  have HTK := Lib.hid (show (y.ds.map nzD).take (k + 1) = (y.ds.map nzD).take k ++ [nzD d] from take_snoc_of _ k _ (by rw [List.getElem?_map, hd]; rfl))
                  have HTL := Lib.hid (show ((y.ds.map nzD).take k).length = k from by rw [List.length_take, List.length_map, HLB.out]; omega)
                  rcases HDY.out with ⟨_, _, _, h2⟩ | ⟨xb, xo, xc, he, _, _, h4⟩
                  · rw [h2] at hd; simp at hd
                  obtain ⟨rfl, rfl⟩ : b1 = some ⟨xb, xo, none⟩ ∧ d1 = xc := by
                    simp only [Value.slice.injEq] at he
                    exact ⟨he.1, he.2.2⟩
                  obtain ⟨sx, x1, x2, x3, x4, x5⟩ := (h4 k d hd).by hbr
                  obtain ⟨px, cx, rfl⟩ := x5.len
                  have HX5 := Lib.hid x5
                  have HPD := Lib.hid hpd
                  obtain ⟨kd, pins, wd, ln⟩ := d
                  dsimp only at x1 x2 x3 x4 HX5 HPD
                  have HNZ := Lib.hid (show nzD ⟨kd, pins, wd, ln⟩ = ⟨kd, normz kd pins, wd, ln⟩ from rfl)
                  obtain ⟨P, hP⟩ : ∃ P, pins.length = P := ⟨_, rfl⟩
                  rw [hP] at x2 HX5
                  have HPL := Lib.hid hP
                  have lx := lt_of_cell x1
                  dsimp only at lx
                  clear hd he h4 x5 hpd hP
                  go_upto_region 13 with fail
                  obtain ⟨wE, hwE⟩ : ∃ z : World, z = wr.alloc (.cells #[.int .i64 kd, .slice px P cx, .int .i64 wd, .int .i64 ln] 62) := ⟨_, rfl⟩
                  have kD : Blk wE wr.heap.size #[.int .i64 kd, .slice px P cx, .int .i64 wd, .int .i64 ln] 62 := by rw [hwE]; exact Blk.new _ rfl
                  have hbE : Below wr.heap.size wr wE := by rw [hwE]; exact (Below.refl _ wr).alloc (Nat.le_refl _) _
                  have hsE : wr.heap.size < wE.heap.size := by rw [hwE]; simp
                  (try rw [← hwE])
                  have kME := Blk.by hbE kM
                  have kBE := Blk.by hbE kB
                  have HBE := Lib.hid (HB.out.by hbE)
                  have HXE := Lib.hid (HX.out.on (Exc.ofBelow (E := fun b => b = M) hbE))
                  clear hwE x1 x2 x3 x4 lx kM kB HB HX
                  have hS : (fun w' : World => Blk w' wr.heap.size #[.int .i64 kd, .slice px P cx, .int .i64 wd, .int .i64 ln] 62 ∧ Blk w' M #[.int .i64 (n : Int), .slice a1 la c1, .slice a2 pa c2, .int .i64 (n : Int), .slice (some ⟨xb, xo, none⟩) la d1, .slice b2 pa d2, .slice sa n sc, .slice ta LA tc, .slice sb n sd, .slice tb LB td, .slice ga k c, .slice none 0 0, .slice (some ⟨U, 0, none⟩) n n, .func (.func gY) #[] lY, .slice (some ⟨NA, 0, none⟩) n n, .slice (some ⟨NB, 0, none⟩) n n] 127) { wE with drawn := wE.drawn + 1 } := ⟨kD.drew, kME.drew⟩
                  refine wp_region_any (by kernel_rfl) (wpAny_of_E (S := fun w' : World => Blk w' wr.heap.size #[.int .i64 kd, .slice px P cx, .int .i64 wd, .int .i64 ln] 62 ∧ Blk w' M #[.int .i64 (n : Int), .slice a1 la c1, .slice a2 pa c2, .int .i64 (n : Int), .slice (some ⟨xb, xo, none⟩) la d1, .slice b2 pa d2, .slice sa n sc, .slice ta LA tc, .slice sb n sd, .slice tb LB td, .slice ga k c, .slice none 0 0, .slice (some ⟨U, 0, none⟩) n n, .func (.func gY) #[] lY, .slice (some ⟨NA, 0, none⟩) n n, .slice (some ⟨NB, 0, none⟩) n n] 127) (l := 11) _ _ _ _ ?_)
                  change wpAnyE _ _ _ _ _ _ _ _ _ wE.drew
                  refine wpAnyE_takeL (i := 0) (v := ?_) rfl (by kernel_rfl) (fun _ _ _ h => h) (Or.inl ⟨by rfl, ?_⟩) hS ?_
                  rotate_left
                  · intro w hSw; (try dsimp only at hSw); have qD := hSw.1.cell; have qM := hSw.2.cell; have lD := hSw.1.lt; have lM := hSw.2.lt; clear hSw; go_simp; (try with_reducible rfl)
                  try simp only [Act.put, List.setIfInBounds_toArray, List.set_cons_zero, List.set_cons_succ]
                  refine wpAnyE_takeL (i := 1) (v := ?_) rfl (by kernel_rfl) (fun _ _ _ h => h) (Or.inl ⟨by rfl, ?_⟩) hS ?_
                  rotate_left
                  · intro w hSw; (try dsimp only at hSw); have qD := hSw.1.cell; have qM := hSw.2.cell; have lD := hSw.1.lt; have lM := hSw.2.lt; clear hSw; go_simp; (try with_reducible rfl)
                  try simp only [Act.put, List.setIfInBounds_toArray, List.set_cons_zero, List.set_cons_succ]
                  refine wpAnyE_takeL (i := 2) (v := ?_) rfl (by kernel_rfl) (fun _ _ _ h => h) (Or.inl ⟨by rfl, ?_⟩) hS ?_
                  rotate_left
                  · intro w hSw; (try dsimp only at hSw); have qD := hSw.1.cell; have qM := hSw.2.cell; have lD := hSw.1.lt; have lM := hSw.2.lt; clear hSw; go_simp; (try with_reducible rfl)
                  try simp only [Act.put, List.setIfInBounds_toArray, List.set_cons_zero, List.set_cons_succ]
                  refine wpAnyE_takeL (i := 3) (v := ?_) rfl (by kernel_rfl) (fun _ _ _ h => h) (Or.inl ⟨by rfl, ?_⟩) hS ?_
                  rotate_left
                  · intro w hSw; (try dsimp only at hSw); have qD := hSw.1.cell; have qM := hSw.2.cell; have lD := hSw.1.lt; have lM := hSw.2.lt; clear hSw; go_simp; (try with_reducible rfl)
                  try simp only [Act.put, List.setIfInBounds_toArray, List.set_cons_zero, List.set_cons_succ]
                  refine wpAnyE_takeL (i := 4) (v := ?_) rfl (by kernel_rfl) (fun _ _ _ h => h) (Or.inl ⟨by rfl, ?_⟩) hS ?_
                  rotate_left
                  · intro w hSw; (try dsimp only at hSw); have qD := hSw.1.cell; have qM := hSw.2.cell; have lD := hSw.1.lt; have lM := hSw.2.lt; clear hSw; go_simp; (try with_reducible rfl)
                  try simp only [Act.put, List.setIfInBounds_toArray, List.set_cons_zero, List.set_cons_succ]
                  refine wpAnyE_takeL (i := 5) (v := ?_) rfl (by kernel_rfl) (fun _ _ _ h => h) (Or.inl ⟨by rfl, ?_⟩) hS ?_
                  rotate_left
                  · intro w hSw; (try dsimp only at hSw); have qD := hSw.1.cell; have qM := hSw.2.cell; have lD := hSw.1.lt; have lM := hSw.2.lt; clear hSw; go_simp; (try with_reducible rfl)
                  try simp only [Act.put, List.setIfInBounds_toArray, List.set_cons_zero, List.set_cons_succ]
                  refine wpAnyE_oneL (k := 6) (by kernel_rfl) rfl (fun K hK => ?_)
                  go_simp
                  go_at_call 63
                  refine (HNM.out kd wd ln (.slice px P cx) pins wE.drew ((HX5.out.by hbE).by (below_of_drewN wE 1)) (by have := HPD.out.1; omega)).mono ?_
                  rintro e w5 ⟨v5, rfl, hO5, hb5⟩
                  have hb5E : Below wE.heap.size wE w5 := below_on hb5 (below_of_drewN wE 1)
                  have kD5 := Blk.by hb5E kD
                  have kM5 := Blk.by hb5E kME
                  have kB5 := Blk.by hb5E kBE
                  have HB5 := Lib.hid (HBE.out.by hb5E)
                  have HX5' := Lib.hid (HXE.out.on (Exc.ofBelow (E := fun b => b = M) hb5E))
                  have hs5 := hb5E.size
                  obtain ⟨f, hf1, hf2, hOf⟩ := OwnI.pin hO5 (fun e => by have h' := congrArg List.length e; rw [length_normz] at h'; have := HPD.out.2; simp at h'; rw [h'] at this; simp at this)
                  have hf3 : wE.heap.size ≤ f := hf1
                  have HOF := Lib.hid hOf
                  clear hS hO5 hOf hb5 hf1 hb5E
                  refine hK.out _ _ (fun _ => ⟨kD5, kM5⟩) ?_
                  try simp only [Act.put, List.setIfInBounds_toArray, List.set_cons_zero, List.set_cons_succ]
                  refine wpAnyE_oneL (k := 7) (by kernel_rfl) rfl (fun K hK => ?_)
                  go_simp
                  have kZ6 : Blk (w5.alloc (.cells #[.int .i64 kd, v5, .int .i64 wd, .int .i64 ln] 62)) w5.heap.size #[.int .i64 kd, v5, .int .i64 wd, .int .i64 ln] 62 := Blk.new _ rfl
                  have hb6 : Below w5.heap.size w5 (w5.alloc (.cells #[.int .i64 kd, v5, .int .i64 wd, .int .i64 ln] 62)) := (Below.refl _ w5).alloc (Nat.le_refl _) _
                  have hs6 : (w5.alloc (.cells #[.int .i64 kd, v5, .int .i64 wd, .int .i64 ln] 62)).heap.size ≤ w5.heap.size + 1 := by simp
                  have hs6' : w5.heap.size + 1 ≤ (w5.alloc (.cells #[.int .i64 kd, v5, .int .i64 wd, .int .i64 ln] 62)).heap.size := by simp
                  have kD6 := Blk.by hb6 kD5
                  have kM6 := Blk.by hb6 kM5
                  have kB6 := Blk.by hb6 kB5
                  have HB6 := Lib.hid (HB5.out.by hb6)
                  have HX6 := Lib.hid (HX5'.out.on (Exc.ofBelow (E := fun b => b = M) hb6))
                  have HOF6 := Lib.hid (OwnR.by hb6 HOF.out)
                  obtain ⟨Z6, hZ6⟩ : ∃ Z, w5.heap.size = Z := ⟨_, rfl⟩
                  rw [hZ6] at kZ6 hs6 hs6' hs5 hf2 ⊢
                  clear hZ6 hb6 HOF kD5 kM5 kB5 HB5 HX5'
                  generalize w5.alloc (.cells #[.int .i64 kd, v5, .int .i64 wd, .int .i64 ln] 62) = w6 at *
                  refine hK.out _ _ (fun _ => ⟨kD6, kM6⟩) ?_
                  try simp only [Act.put, List.setIfInBounds_toArray, List.set_cons_zero, List.set_cons_succ]
                  refine wpAnyE_oneL (k := 8) (by kernel_rfl) rfl (fun K hK => ?_)
                  refine step_pushDN (by rfl) _ _ (by rfl) wD.heap.size hi k (.slice ga k c) ((y.ds.map nzD).take k) HTL.out (by rfl) HB6.out Z6 ⟨kd, normz kd pins, wd, ln⟩ v5 f (by rfl) kZ6 HOF6.out (by omega) (by omega) (by omega) (by omega) ?_
                  intro g7 c7 w7 hB7 hW7
                  rw [← HNZ.out, ← HTK.out] at hB7
                  have kD7 := hW7.blk kD6 (.inr (by omega))
                  have kM7 := hW7.blk kM6 (.inl (by omega))
                  have kB7 := hW7.blk kB6 (.inl (by omega))
                  have HX7 := Lib.hid (HX6.out.thn (Exc.ofWithin (E := fun b => wD.heap.size ≤ b) hW7 (fun q h1 h2 => h1)) (fun q hq h => by omega))
                  have hs7 := hW7.size
                  have HB7 := Lib.hid hB7
                  clear hB7 hW7 kD6 kM6 kB6 HB6 HX6
                  refine hK.out _ _ (fun _ => ⟨kD7, kM7⟩) ?_
                  try simp only [Act.put, List.setIfInBounds_toArray, List.set_cons_zero, List.set_cons_succ]
                  refine wpAnyE_oneL (k := 9) (by kernel_rfl) rfl (fun K hK => ?_)
                  go_simp
                  refine hK.out _ _ (fun _ => ⟨kD7, kM7⟩) ?_
                  try simp only [Act.put, List.setIfInBounds_toArray, List.set_cons_zero, List.set_cons_succ]
                  refine wpAnyE_oneL (k := 10) (by kernel_rfl) rfl (fun K hK => ?_)
                  go_simp
                  refine hK.out _ _ (fun _ => ⟨kD7, kM7⟩) ?_
                  try simp only [Act.put, List.setIfInBounds_toArray, List.set_cons_zero, List.set_cons_succ]
                  refine wpAnyE_oneL (k := 11) (by kernel_rfl) rfl (fun K hK => ?_)
                  have cM7 := kM7.cell
                  have fM7 := kM7.free
                  have lM7 := kM7.lt
                  go_simp
                  refine hK.out _ _ (fun h => absurd rfl h) ?_
                  refine wpAnyE_done (by kernel_rfl) ?_ _
                  have kM8 : Blk (w7.setCell ⟨M, 10, none⟩ (.slice g7 (k + 1) c7)) M #[.int .i64 (n : Int), .slice a1 la c1, .slice a2 pa c2, .int .i64 (n : Int), .slice (some ⟨xb, xo, none⟩) la d1, .slice b2 pa d2, .slice sa n sc, .slice ta LA tc, .slice sb n sd, .slice tb LB td, .slice g7 (k + 1) c7, .slice none 0 0, .slice (some ⟨U, 0, none⟩) n n, .func (.func gY) #[] lY, .slice (some ⟨NA, 0, none⟩) n n, .slice (some ⟨NB, 0, none⟩) n n] 127 := kM7.set 10 _
                  have kB8 := kB7.apart M 10 (.slice g7 (k + 1) c7) hMB'
                  have HX8 := Lib.hid (HX7.out.set M 10 (.slice g7 (k + 1) c7) (fun _ => rfl))
                  have HB8 : Hid (Bld (w7.setCell ⟨M, 10, none⟩ (.slice g7 (k + 1) c7)) wD.heap.size w7.heap.size (.slice g7 (k + 1) c7) ((y.ds.map nzD).take (k + 1))) := Lib.hid (Bld.past (Within.off _) HB7.out (.inl (by omega)))
                  clear cM7 fM7 lM7 kM7 kB7 HX7 HB7 kD7
                  go_wp2
                  exact ⟨⟨k + 1, w7.heap.size, c7, g7, by omega, by go_num, kM8, HB8, by omega, by simp, kB8, HX8⟩, by simp [intOf]; omega⟩
                · obtain rfl : la = k := by omega
                  have i1 : ¬ (la : Int) < (la : Int) := by omega
                  have HTA := Lib.hid (show (y.ds.map nzD).take la = y.ds.map nzD from List.take_of_length_le (by rw [List.length_map, HLB.out]; exact Nat.le_refl _))
                  rw [HTA.out] at HB
                  have hX : Exc (fun b => b = M) wD wr := HX.out
                  have HOA := Lib.hid (OwnR.exc hX HO14.out (fun k h1 h2 (e : k = M) => by omega))
                  have HOB := Lib.hid (OwnR.exc hX HO34.out (fun k h1 h2 (e : k = M) => by omega))
                  have HUr := Lib.hid (UsedB.exc hX HU4.out (fun (e : U = M) => hMU e.symm))
                  have HLAr := Lib.hid (HLA4.out.exc hX (fun k h1 h2 (e : k = M) => (HRA.out k h1 h2).1 e))
                  have HLBr := Lib.hid (HLB4.out.exc hX (fun k h1 h2 (e : k = M) => (HRB.out k h1 h2).1 e))
                  have HYd := Lib.hid (HC.out.hYs [] w wr HC.out.h0 (fun _ => rfl) (Exc.ofBelow hbr))
                  have HYX := Lib.hid (fun w2 (h2 : Exc (EB M U Y) wr w2) => (show Exc Y w w2 from (Exc.ofBelow (E := Y) hbr).thn h2 (fun q hq h => by
                    rcases h with h | h | h
                    · omega
                    · omega
                    · exact h)))
                  have HRC : Hid (RunC x y (refNet x).1.1 (refNet y).1.1 one n wr.heap.size M U NA NB wD.heap.size hi gY (.slice a1 la c1) (.slice a2 pa c2) (.slice b1 la d1) (.slice b2 pa d2) (.slice sa n sc) (.slice ta LA tc) (.slice sb n sd) (.slice tb LB td) (.slice ga la c) (n : Int) lY Y Yd wr) := Lib.hid {
                    hx := HX'.out
                    hy := HY.out
                    hxy := by rw [HNX.out, HNY2.out]
                    hpl := by rw [HPA.out, HPB2.out]
                    hnn := HNX.out
                    hlx := by rw [HLA.out]; exact hlx
                    hly := by rw [HLB.out]; exact hlx
                    hJ := rfl
                    hMJ := by omega
                    hUJ := by omega
                    hMU := hMU
                    hYM := fun h => by have := HC.out.hYl M h; omega
                    hYU := fun h => by have := HC.out.hYl U h; omega
                    hYJ := fun b h => by have := HC.out.hYl b h; omega
                    hlo := hhs
                    hA := fun w2 h2 => (nlV_dp (HC.out.hV w2 (HYX.out w2 h2))).1
                    hcx := by have := (ref_lens HX'.out).1; rw [HNX.out] at this; omega
                    hcy := by have := (ref_lens HY.out).1; rw [HNY2.out] at this; omega
                    hCA := fun w2 h2 => (OwnR.exc h2 HOA.out (fun k h1 h2' h3 => by
                      rcases h3 with h3 | h3 | h3
                      · omega
                      · omega
                      · have := HC.out.hYl k h3; omega)).sl
                    hCB := fun w2 h2 => (OwnR.exc h2 HOB.out (fun k h1 h2' h3 => by
                      rcases h3 with h3 | h3 | h3
                      · omega
                      · omega
                      · have := HC.out.hYl k h3; omega)).sl
                    hD := fun w2 h2 => OwnDs.exc h2 HB.out.own (fun k h1 h2' h3 => by
                      rcases h3 with h3 | h3 | h3
                      · omega
                      · omega
                      · have := HC.out.hYl k h3; omega)
                    hPA := fun w2 h2 k hk => by
                      obtain ⟨N', s, e1, e2, e3, _⟩ := (HLAr.out.exc h2 (fun k h1 h2' h3 => by
                        rcases h3 with h3 | h3 | h3
                        · exact (HRA.out k h1 h2').1 h3
                        · exact (HRA.out k h1 h2').2 h3
                        · have := HC.out.hYl k h3; omega)).row (j := k) (xs := portTo x.ps (k : Int) x.ps.length) (by unfold netL; rw [List.getElem?_map, List.getElem?_range hk]; rfl)
                      simp only [Value.slice.injEq, Option.some.injEq, Addr.mk.injEq, and_true] at e1
                      obtain ⟨rfl, _⟩ := e1
                      exact ⟨s, e2, e3⟩
                    hPB := fun w2 h2 k hk => by
                      obtain ⟨N', s, e1, e2, e3, _⟩ := (HLBr.out.exc h2 (fun k h1 h2' h3 => by
                        rcases h3 with h3 | h3 | h3
                        · exact (HRB.out k h1 h2').1 h3
                        · exact (HRB.out k h1 h2').2 h3
                        · have := HC.out.hYl k h3; omega)).row (j := k) (xs := portTo y.ps (k : Int) y.ps.length) (by unfold netL; rw [List.getElem?_map, List.getElem?_range hk]; rfl)
                      simp only [Value.slice.injEq, Option.some.injEq, Addr.mk.injEq, and_true] at e1
                      obtain ⟨rfl, _⟩ := e1
                      exact ⟨s, e2, e3⟩
                    eg := HC.out.eg
                    hY := fun zs z sv w2 h1 h2 h3 h4 h5 h6 h7 => HC.out.hY HPY.out zs z sv w2 h1 h2 (HYX.out w2 h3) h4 (by rw [HNX.out]; exact h5) (by rw [HNX.out]; exact h6) h7
                    hYs := fun zs w2 w3 h1 h2 h3 => HC.out.hYs zs w2 w3 h1 h2 (h3.mono (fun q hq h => by
                      rcases h with h | h | h
                      · omega
                      · omega
                      · omega)) }
                  have HRUN := Lib.hid (run_any _ _ _ _ _ _ _ _ _ _ _ _ _ _ _ _ _ _ _ _ _ _ _ _ _ _ _ _ HRC.out n [] [] (.slice none 0 0) wr kM (BldI.nil wr _) HUr.out (Exc.refl _ _) HYd.out (fun _ => rfl) ⟨by simp, by simp⟩ (by simp) (fit_root HX'.out HY.out (by rw [HNX.out, HNY2.out]) (by rw [HPA.out, HPB2.out])))
                  have HSS := Lib.hid (show srch (fitB x y) (colB (refNet x).1.1 (refNet y).1.1) n one n [] = ismS x y one from by
                    unfold ismS
                    rw [if_pos HPY.out]
                    unfold srchS
                    rw [HNX.out, Int.toNat_natCast])
                  rw [HSS.out] at HRUN
                  clear HRC HB HX HOA HOB HUr HLAr HLBr HO14 HO34 HU4 HLA4 HLB4
                  go_wp2_with fail
                  refine HRUN.out.mono ?_
                  rintro e w9 ⟨rfl, hY9, hE9, _⟩
                  have HY9 := Lib.hid hY9
                  have HE9 := Lib.hid (HYX.out w9 hE9)
                  clear hY9 hE9
                  go_wp2
                  go_end0
                  exact ⟨by rfl, HY9.out, HE9.out⟩
      · have e1 : ((pa : Int) == (pb : Int)) = false := by simp; omega
        have e2 : ((pa : Int) != (pb : Int)) = true := by simp; omega
        have HNP := Lib.hid (show preB x y = false from by
          have h1 : ¬ namD x.ps y.ps = -1 := fun h => hpp (by have := (namD_no h).1; rw [HPA.out, HPB2.out] at this; exact this.symm)
          rw [HPB.out, decide_eq_false h1]; simp)
        clear hpp
        go_enter Tryz.func42, Tryz.ntmps42
        go_wp2
        refine bodyPost_ret (v := .tuple #[]) (by simp [results, Tryz.results42, go_sem, *]) rfl ⟨rfl, HNO.out _ blwT HNP.out⟩
    · have e1 : ((la : Int) == (lb : Int)) = false := by simp; omega
      have e2 : ((la : Int) != (lb : Int)) = true := by simp; omega
      have HNP := Lib.hid (show preB x y = false from by rw [HPB.out, decide_eq_false hl]; simp)
      clear hl
      go_enter Tryz.func42, Tryz.ntmps42
      go_wp2
      refine bodyPost_ret (v := .tuple #[]) (by simp [results, Tryz.results42, go_sem, *]) rfl ⟨rfl, HNO.out _ blwT HNP.out⟩
  · have e1 : (nx == ny) = false := by simpa using hn
    have e2 : (nx != ny) = true := by simpa using hn
    have HNP := Lib.hid (show preB x y = false from by rw [HPB.out, decide_eq_false hn]; rfl)
    clear hn
    go_enter Tryz.func42, Tryz.ntmps42
    go_wp2
    refine bodyPost_ret (v := .tuple #[]) (by simp [results, Tryz.results42, go_sem, *]) rfl ⟨rfl, HNO.out _ blwT HNP.out⟩
set_option maxRecDepth 100000 in
theorem aut1_any (C : Nat) (k : Int) (sv : Value) (w : World) (kC : Blk w C #[.int .i64 k] 2) :
    Calls Tryz.prog 61 #[sv, .pointer (some ⟨C, 0, none⟩)] w fun e w' => e = .returned (.bool true) ∧ ∃ k', Blk w' C #[.int .i64 k'] 2 ∧ (0 ≤ k → k ≤ 1000000000 → k' = k + 1) ∧ Exc (fun b => b = C) w w' := by
  have cC := kC.cell
  have fC := kC.free
  have lC := kC.lt
  by_cases hk : 0 ≤ k ∧ k ≤ 1000000000
  · obtain ⟨h1, h2⟩ := hk
    go_enter Tryz.func61, Tryz.ntmps61
    go_wp2
    go_ret
    exact ⟨rfl, k + 1, kC.set1, fun _ _ => rfl, Exc.set (E := fun b => b = C) (Exc.refl _ w) C 0 _ (fun _ => rfl)⟩
  · go_enter Tryz.func61, Tryz.ntmps61
    go_wp2
    go_ret
    exact ⟨rfl, _, kC.set1, fun h1 h2 => absurd ⟨h1, h2⟩ hk, Exc.set (E := fun b => b = C) (Exc.refl _ w) C 0 _ (fun _ => rfl)⟩
def AutYd (C : Nat) (zs : List (List Int)) (w : World) : Prop := ∃ k : Int, Blk w C #[.int .i64 k] 2 ∧ (zs.length ≤ 1000000000 → k = zs.length)
theorem preB_self {x : Nl} (hx : nlB x = true) : preB x x = true := by
  have h := names_of (NlIso.self hx)
  unfold preB
  rw [decide_eq_true h]
  simp
set_option maxRecDepth 100000 in
set_option maxHeartbeats 8000000 in
theorem implAut_any (x : Nl) (v : Value) (w : World) (h : NlV w v x) (hok : ∀ p ∈ x.ps, p.ok) (hfx : Fits x.nets) :
    Calls Tryz.prog 23 #[v] w fun e w' => e = .returned (.int .i64 (autR x)) ∧ Below w.heap.size w w' := by
  have HV := Lib.hid h
  have HVX := Lib.hid (fun v w h => implNl_any x v w h hok hfx)
  have HNM := Lib.hid (fun (d : Dv) sv w (h : IntSl w sv d.pins) hn => implNorm_any d.kind d.wd d.len sv d.pins w h hn)
  have HCP := Lib.hid (fun (x y : Dv) s1 s2 w h h' => compareDevices_any x.kind x.wd x.len y.kind y.wd y.len s1 s2 x.pins y.pins w h h')
  obtain ⟨s1, s2, ev, hds, _⟩ := id h
  have HDS := Lib.hid hds
  obtain ⟨a1, c1, a2, c2, rfl⟩ := h.sized
  simp only [Value.agg.injEq, Array.mk.injEq, List.cons.injEq, and_true] at ev
  obtain ⟨_, rfl, rfl⟩ := ev
  obtain ⟨R, hR⟩ : ∃ R, autR x = R := ⟨_, rfl⟩
  rw [hR]
  have HR := Lib.hid hR
  obtain ⟨nx, hnx⟩ : ∃ N, x.nets = N := ⟨_, rfl⟩
  obtain ⟨n, hn⟩ : ∃ N, x.ds.length = N := ⟨_, rfl⟩
  obtain ⟨p, hp⟩ : ∃ N, x.ps.length = N := ⟨_, rfl⟩
  rw [hnx, hn, hp] at HV ⊢
  rw [hn] at HDS
  have HE := Lib.hid (And.intro hnx hn)
  have kA1 : Blk (w.alloc (.cells #[.int .i64 nx, .slice a1 n c1, .slice a2 p c2] 35)) w.heap.size #[.int .i64 nx, .slice a1 n c1, .slice a2 p c2] 35 := Blk.new _ rfl
  have hb1w : Below w.heap.size w (w.alloc (.cells #[.int .i64 nx, .slice a1 n c1, .slice a2 p c2] 35)) := (Below.refl _ w).alloc (Nat.le_refl _) _
  clear h hok hfx hnx hn hp hR hds
  have qA := kA1.cell
  have lA := kA1.lt
  go_enter Tryz.func23, Tryz.ntmps23
  go_wp2_with fail
  generalize w.alloc (.cells #[.int .i64 nx, .slice a1 n c1, .slice a2 p c2] 35) = w1 at *
  refine (HVX.out _ _ (HV.out.by hb1w)).mono ?_
  rintro e w2 ⟨rfl, hb2⟩
  have kA2 := Blk.by hb2 kA1
  have hb2w := below_on hb2 hb1w
  have hlA := kA2.lt
  clear hb2 kA1 hb1w qA lA
  have qA := kA2.cell
  have lA := kA2.lt
  by_cases hall : nlB x = true ∧ nx ≤ 7 ∧ n ≤ 10
  · obtain ⟨hx, h7, h10⟩ := hall
    have g1 : ¬ (7 : Int) < nx := by omega
    have g2 : ¬ (10 : Int) < (n : Int) := by omega
    have g3 : decide ((7 : Int) < nx) = false := decide_eq_false g1
    have g4 : decide ((10 : Int) < (n : Int)) = false := decide_eq_false g2
    have hRR : R = ((autN x * wayTo x.ds n : Nat) : Int) := by
      rw [← HR.out]; unfold autR
      rw [if_pos ⟨hx, by rw [HE.out.1]; exact h7, by rw [HE.out.2]; exact h10⟩, HE.out.2]
    have HRR := Lib.hid hRR
    have h0 : 0 ≤ nx := by have := (nlB_facts hx).1; have := HE.out.1; omega
    have HXB := Lib.hid hx
    have HAB := Lib.hid (aut_bd (x := x) (by rw [HE.out.1]; exact h7) (by rw [HE.out.1]; exact h0))
    have HWB := Lib.hid (fun k => way_bd x.ds k (by rw [HE.out.2]; exact h10))
    have HWS := Lib.hid (fun k d (h : x.ds[k]? = some d) => wayTo_step x.ds k d h)
    have HNC := Lib.hid (fun j e (h : x.ds[j]? = some e) t => nzc_step x.ds j e h t)
    rw [hx]
    clear hx hRR HR
    go_wp2_with fail
    have hal : Below w2.heap.size w2 (w2.alloc (.cells #[.int .i64 0] 2)) := (Below.refl _ w2).alloc (Nat.le_refl _) _
    have kC3 : Blk (w2.alloc (.cells #[.int .i64 0] 2)) w2.heap.size #[.int .i64 0] 2 := Blk.new _ rfl
    have hs3 : w2.heap.size < (w2.alloc (.cells #[.int .i64 0] 2)).heap.size := by simp
    have kA3 := Blk.by hal kA2
    have hb3w := below_on hal hb2w
    have hs2 := hb2w.size
    clear hal kA2 hb2w qA lA
    generalize w2.alloc (.cells #[.int .i64 0] 2) = w3 at *
    obtain ⟨C, hC⟩ : ∃ C, w2.heap.size = C := ⟨_, rfl⟩
    rw [hC] at kC3 hs3 hs2 hlA ⊢
    clear hC
    have HYC : Hid (YldC x x false (.agg #[.int .i64 nx, .slice a1 n c1, .slice a2 p c2]) (.agg #[.int .i64 nx, .slice a1 n c1, .slice a2 p c2]) 61 #[.pointer (some ⟨C, 0, none⟩)] (fun b => b = C) (AutYd C) w3) := Lib.hid {
      hV := fun w1 h1 => HV.out.by (h1.below hb3w (fun k hk (h : k = C) => by omega))
      hU := fun w1 h1 => HV.out.by (h1.below hb3w (fun k hk (h : k = C) => by omega))
      hYl := fun b (h : b = C) => by omega
      eg := enters_of Tryz.func61 (by kernel_rfl) rfl
      hY := fun hpre zs z sv w1 h1 h2 h3 h4 h5 h6 h7 => by
        obtain ⟨k, g1, g2⟩ := h1
        show Calls Tryz.prog 61 #[sv, .pointer (some ⟨C, 0, none⟩)] w1 _
        refine (aut1_any C k sv w1 g1).mono ?_
        rintro e w9 ⟨rfl, k', q1, q2, q3⟩
        refine ⟨rfl, ⟨k', q1, fun hl => ?_⟩, q3⟩
        rw [List.length_append, List.length_singleton] at hl ⊢
        have := g2 (by omega)
        have := q2 (by omega) (by omega)
        omega
      hYs := fun zs w1 w2 h1 h2 h3 => by
        obtain ⟨k, g1, g2⟩ := h1
        exact ⟨k, h3.blk g1 (show ¬ w3.heap.size ≤ C by omega), g2⟩
      h0 := ⟨0, kC3, fun _ => rfl⟩ }
    refine (isomorphisms_any x x false _ _ _ _ _ _ w3 HXB.out HXB.out (by rw [HE.out.2]; exact h10) (by rw [HE.out.2]; exact h10) HYC.out).mono ?_
    rintro e w4 ⟨rfl, hY4, hE4⟩
    have hb4w : Below w.heap.size w w4 := hE4.below hb3w (fun k hk (h : k = C) => by omega)
    have kA4 := hE4.blk kA3 (show ¬ w.heap.size = C by omega)
    obtain ⟨k4, kC4, hk4⟩ := hY4
    have hk4' : k4 = ((autN x : Nat) : Int) := by
      have e1 : (ismS x x false).length = autN x := by
        unfold ismS
        rw [if_pos (preB_self HXB.out)]
        rfl
      rw [e1] at hk4
      exact hk4 (by have := HAB.out; omega)
    obtain ⟨T, hT⟩ : ∃ T, autN x = T := ⟨_, rfl⟩
    rw [hT] at HAB HRR hk4'
    subst hk4'
    have hTb := HAB.out
    have hC4 : w.heap.size < C := by omega
    have hs4 := hE4.size
    clear hT HAB HYC hE4 kA3 kC3 hk4 hb3w
    have HW0 := Lib.hid (show wayTo x.ds 0 = 1 from rfl)
    have qA := kA4.cell
    have lA := kA4.lt
    go_wp2
    clear qA lA
    go_loopw [4, 31] (fun cv iv wr => ∃ (k c : Nat), k ≤ n ∧ iv = .int .i64 (k : Int) ∧ cv = .int .i64 (c : Int) ∧ Hid (c = wayTo x.ds k) ∧ Blk wr w.heap.size #[.int .i64 nx, .slice a1 n c1, .slice a2 p c2] 35 ∧ Blk wr C #[.int .i64 (T : Int)] 2 ∧ Below w.heap.size w wr) (fun _ iv _ => n - (intOf iv).toNat)
    case atStart => exact ⟨0, 1, Nat.zero_le _, rfl, rfl, Lib.hid HW0.out.symm, kA4, kC4, hb4w⟩
    case round =>
      clear kA4 kC4 hb4w
      obtain ⟨k, c, hk, rfl, rfl, HCC, kA, kC, hb⟩ := hrel
      have qA := kA.cell
      have lA := kA.lt
      by_cases hlt : k < n
      · have i1 : (k : Int) < (n : Int) := by omega
        have i2 : decide (k < n) = true := decide_eq_true hlt
        obtain ⟨d, hd⟩ : ∃ d, x.ds[k]? = some d := ⟨_, List.getElem?_eq_getElem (by rw [HE.out.2]; exact hlt)⟩
        have HWS1 := Lib.hid (HWS.out k d hd)
        have HPB := Lib.hid (fun e (he : e ∈ x.ds) => dvB_pins ((nlB_facts HXB.out).2.2.2.1 e he))
        have hdp := HPB.out d (List.mem_of_getElem? hd)
        rcases HDS.out with ⟨_, _, _, h2⟩ | ⟨xb, xo, xc, he, hcap, _, h4⟩
        · rw [h2] at hd; simp at hd
        obtain ⟨rfl, rfl⟩ : a1 = some ⟨xb, xo, none⟩ ∧ c1 = xc := by
          simp only [Value.slice.injEq] at he
          exact ⟨he.1, he.2.2⟩
        rw [HE.out.2] at hcap
        have i3 : (k : Int) ≤ (c1 : Int) := by omega
        have i4 : k ≤ c1 := by omega
        have i5 : decide (k ≤ c1) = true := decide_eq_true i4
        have HAT := Lib.hid h4
        have HDP := Lib.hid hdp
        obtain ⟨sx, x1, x2, x3, x4, x5⟩ := (h4 k d hd).by hb
        obtain ⟨px, cx, rfl⟩ := x5.len
        have HXP := Lib.hid x5
        obtain ⟨PX, hPX⟩ : ∃ P, d.pins.length = P := ⟨_, rfl⟩
        rw [hPX] at x2 HXP
        have HPXL := Lib.hid hPX
        have lx := lt_of_cell x1
        dsimp only at lx
        clear hd he h4 hdp x5 hPX hcap
        go_wp2
        obtain ⟨wo, hwo⟩ : ∃ z : World, z = wr.alloc (.cells #[.int .i64 d.kind, .slice px PX cx, .int .i64 d.wd, .int .i64 d.len] 62) := ⟨_, rfl⟩
        have kD0 : Blk wo wr.heap.size #[.int .i64 d.kind, .slice px PX cx, .int .i64 d.wd, .int .i64 d.len] 62 := by rw [hwo]; exact Blk.new _ rfl
        have hbo1 : Below wr.heap.size wr wo := by rw [hwo]; exact (Below.refl _ wr).alloc (Nat.le_refl _) _
        rw [← hwo]
        have kA2 := Blk.by hbo1 kA
        have kC2 := Blk.by hbo1 kC
        have HXP2 := Lib.hid (HXP.out.by hbo1)
        have hbow := below_on hbo1 hb
        obtain ⟨DD, hDD⟩ : ∃ z, wr.heap.size = z := ⟨_, rfl⟩
        rw [hDD] at kD0 ⊢
        clear hwo hbo1 hDD kA kC HXP hb qA lA x1 x2 x3 x4 lx
        go_loopw [7, 41] (fun sv jv wr => ∃ (j s : Nat), j ≤ k ∧ jv = .int .i64 (j : Int) ∧ sv = .int .i64 (s : Int) ∧ s ≤ j + 1 ∧ Hid (s = ((x.ds.take j).map nzD).count (nzD d) + 1) ∧ Below wo.heap.size wo wr) (fun _ jv _ => k - (intOf jv).toNat)
        case atStart => exact ⟨0, 1, Nat.zero_le _, rfl, rfl, by omega, Lib.hid (by simp), blwT⟩
        case round =>
          obtain ⟨j, s, hj, rfl, rfl, hsj, HSS, hbo⟩ := hrel
          have hbw := below_on hbo hbow
          have kDj := Blk.by hbo kD0
          by_cases hjt : j < k
          · have j1 : (j : Int) < (k : Int) := by omega
            have j2 : decide (j < k) = true := decide_eq_true hjt
            obtain ⟨e, he⟩ : ∃ e, x.ds[j]? = some e := ⟨_, List.getElem?_eq_getElem (by rw [HE.out.2]; omega)⟩
            have HNC1 := Lib.hid (HNC.out j e he (nzD d))
            have hep := HPB.out e (List.mem_of_getElem? he)
            have HEP := Lib.hid hep
            obtain ⟨sy, y1, y2, y3, y4, y5⟩ := (HAT.out j e he).by hbw
            obtain ⟨py, cy, rfl⟩ := y5.len
            have HYP := Lib.hid y5
            obtain ⟨PY, hPY⟩ : ∃ P, e.pins.length = P := ⟨_, rfl⟩
            rw [hPY] at y2 HYP
            have HPYL := Lib.hid hPY
            have ly := lt_of_cell y1
            dsimp only at ly
            clear he hep y5 hPY
            go_upto_region 13 with fail
            obtain ⟨wE, hwE⟩ : ∃ z : World, z = wr.alloc (.cells #[.int .i64 e.kind, .slice py PY cy, .int .i64 e.wd, .int .i64 e.len] 62) := ⟨_, rfl⟩
            have kE : Blk wE wr.heap.size #[.int .i64 e.kind, .slice py PY cy, .int .i64 e.wd, .int .i64 e.len] 62 := by rw [hwE]; exact Blk.new _ rfl
            have hbE : Below wr.heap.size wr wE := by rw [hwE]; exact (Below.refl _ wr).alloc (Nat.le_refl _) _
            (try rw [← hwE])
            have kDE := Blk.by hbE kDj
            have hbEo := below_on hbE hbo
            have HXE := Lib.hid (HXP2.out.by hbEo)
            have HYE := Lib.hid (HYP.out.by hbE)
            clear hwE hbE kDj HYP y1 y2 y3 y4 ly
            have hS : (fun w' : World => Blk w' DD #[.int .i64 d.kind, .slice px PX cx, .int .i64 d.wd, .int .i64 d.len] 62 ∧ Blk w' wr.heap.size #[.int .i64 e.kind, .slice py PY cy, .int .i64 e.wd, .int .i64 e.len] 62) { wE with drawn := wE.drawn + 1 } := ⟨kDE.drew, kE.drew⟩
            refine wp_region_any (by kernel_rfl) (wpAny_of_E (S := fun w' : World => Blk w' DD #[.int .i64 d.kind, .slice px PX cx, .int .i64 d.wd, .int .i64 d.len] 62 ∧ Blk w' wr.heap.size #[.int .i64 e.kind, .slice py PY cy, .int .i64 e.wd, .int .i64 e.len] 62) (l := 5) _ _ _ _ ?_)
            change wpAnyE _ _ _ _ _ _ _ _ _ wE.drew
            refine wpAnyE_takeL (i := 0) (v := ?_) rfl (by kernel_rfl) (fun _ _ _ h => h) (Or.inl ⟨by rfl, ?_⟩) hS ?_
            rotate_left
            · intro w hSw; (try dsimp only at hSw); have qD := hSw.1.cell; have qE := hSw.2.cell; have lD := hSw.1.lt; have lE := hSw.2.lt; clear hSw; go_simp; (try with_reducible rfl)
            try simp only [Act.put, List.setIfInBounds_toArray, List.set_cons_zero, List.set_cons_succ]
            refine wpAnyE_takeL (i := 2) (v := ?_) rfl (by kernel_rfl) (fun _ _ _ h => h) (Or.inl ⟨by rfl, ?_⟩) hS ?_
            rotate_left
            · intro w hSw; (try dsimp only at hSw); have qD := hSw.1.cell; have qE := hSw.2.cell; have lD := hSw.1.lt; have lE := hSw.2.lt; clear hSw; go_simp; (try with_reducible rfl)
            try simp only [Act.put, List.setIfInBounds_toArray, List.set_cons_zero, List.set_cons_succ]
            refine wpAnyE_oneL (k := 1) (by kernel_rfl) rfl (fun K hK => ?_)
            go_simp
            go_at_call 63
            refine (HNM.out d (.slice px PX cx) wE.drew (HXE.out.by (below_of_drewN wE 1)) (by have := HDP.out.1; omega)).mono ?_
            rintro e_ w3' ⟨v3, rfl, hO3, hb3⟩
            have hb3' : Below wE.heap.size wE w3' := below_on hb3 (below_of_drewN wE 1)
            have HO3 := Lib.hid hO3.sl
            have kD3 := Blk.by hb3' kDE
            have kE3 := Blk.by hb3' kE
            clear hS hO3 hb3
            refine hK.out _ _ (fun _ => ⟨kD3, kE3⟩) ?_
            try simp only [Act.put, List.setIfInBounds_toArray, List.set_cons_zero, List.set_cons_succ]
            refine wpAnyE_oneL (k := 3) (by kernel_rfl) rfl (fun K hK => ?_)
            go_simp
            go_at_call 63
            refine (HNM.out e (.slice py PY cy) w3' (HYE.out.by hb3') (by have := HEP.out.1; omega)).mono ?_
            rintro e_ w4' ⟨v4, rfl, hO4, hb4⟩
            have HO4 := Lib.hid hO4.sl
            have HO3' := Lib.hid (HO3.out.by hb4)
            have hb4' := below_on hb4 hb3'
            have kD4 := Blk.by hb4 kD3
            have kE4 := Blk.by hb4 kE3
            clear hO4 hb4 HO3 hb3' kD3 kE3
            refine hK.out _ _ (fun _ => ⟨kD4, kE4⟩) ?_
            try simp only [Act.put, List.setIfInBounds_toArray, List.set_cons_zero, List.set_cons_succ]
            refine wpAnyE_oneL (k := 4) (by kernel_rfl) rfl (fun K hK => ?_)
            go_simp
            go_at_call 62
            refine (HCP.out (nzD d) (nzD e) _ _ _ HO3'.out HO4.out).mono ?_
            rintro e_ w5 ⟨rfl, hb5⟩
            have hb5' := below_on hb5 hb4'
            have hbo5 := below_on hb5' hbEo
            have kD5 := Blk.by hb5 kD4
            have kE5 := Blk.by hb5 kE4
            obtain ⟨RC, hRC⟩ : ∃ R, dcf (nzD d) (nzD e) = R := ⟨_, rfl⟩
            rw [show devcmp (nzD d).kind (nzD e).kind (nzD d).pins (nzD e).pins (nzD d).wd (nzD e).wd (nzD d).len (nzD e).len = RC from hRC]
            have HRC := Lib.hid hRC
            clear hb5 hb4' HO3' HO4 hRC kD4 kE4
            refine hK.out _ _ (fun _ => ⟨kD5, kE5⟩) ?_
            try simp only [Act.put, List.setIfInBounds_toArray, List.set_cons_zero, List.set_cons_succ]
            refine wpAnyE_oneL (k := 5) (by kernel_rfl) rfl (fun K hK => ?_)
            go_simp
            refine hK.out _ _ (fun h => absurd rfl h) ?_
            refine wpAnyE_done (by kernel_rfl) ?_ _
            clear kD5 kE5 HXE HYE hb5' kDE kE
            by_cases hr0 : RC = 0
            · subst hr0
              have heq : nzD e = nzD d := (dcf_zero.1 HRC.out).symm
              have hst := HNC1.out
              rw [if_pos heq] at hst
              have HST := Lib.hid hst
              clear heq hst
              go_wp2
              exact ⟨⟨j + 1, s + 1, by omega, by go_num, by go_num, by omega, Lib.hid (by rw [HST.out, HSS.out]), hbo5⟩, by simp [intOf]; omega⟩
            · have r1 : (RC == 0) = false := by simpa using hr0
              have hne : ¬ nzD e = nzD d := fun q => hr0 (by rw [← HRC.out, q]; exact dcf_zero.2 rfl)
              have hst := HNC1.out
              rw [if_neg hne, Nat.add_zero] at hst
              have HST := Lib.hid hst
              clear hne hst hr0
              go_wp2
              exact ⟨⟨j + 1, s, by omega, by go_num, by rfl, by omega, Lib.hid (by rw [HST.out, HSS.out]), hbo5⟩, by simp [intOf]; omega⟩
          · obtain rfl : k = j := by omega
            have j1 : ¬ (k : Int) < (k : Int) := by omega
            obtain ⟨c', hc'⟩ : ∃ c' : Nat, wayTo x.ds (k + 1) = c' := ⟨_, rfl⟩
            have hcb : c' ≤ 10000000000 := by rw [← hc']; exact (HWB.out (k + 1)).2
            have hcs : (c : Int) * (s : Int) = (c' : Int) := by
              rw [← hc', HWS1.out, HCC.out, HSS.out]
              rw [Nat.mul_comm ((List.count (nzD d) (List.map nzD (List.take k x.ds))) + 1) (wayTo x.ds k)]
              push_cast
              rfl
            have HC' := Lib.hid hc'
            have hw1 : IntKind.i64.wrap ((c : Int) * (s : Int)) = (c' : Int) := by rw [hcs]; simp [IntKind.wrap, IntKind.bits, IntKind.signed]; omega
            have kA9 := Blk.by hbo kA2
            have kC9 := Blk.by hbo kC2
            clear hc' hjt
            go_wp2
            exact ⟨⟨k + 1, c', by omega, by go_num, by first | rfl | (simp [hcs]) | go_num, Lib.hid HC'.out.symm, kA9, kC9, hbw⟩, by simp [intOf]; omega⟩
      · obtain rfl : n = k := by omega
        have i1 : ¬ (n : Int) < (n : Int) := by omega
        have hcb : c ≤ 10000000000 := by rw [HCC.out]; exact (HWB.out n).2
        obtain ⟨q, hq⟩ : ∃ q : Nat, T * c = q := ⟨_, rfl⟩
        have hqb : q ≤ 823543 * 10000000000 := by rw [← hq]; exact Nat.mul_le_mul hTb hcb
        have hqs : (T : Int) * (c : Int) = (q : Int) := by rw [← hq]; push_cast; rfl
        have hw1 : IntKind.i64.wrap ((T : Int) * (c : Int)) = (q : Int) := by rw [hqs]; simp [IntKind.wrap, IntKind.bits, IntKind.signed]; omega
        have HQ := Lib.hid hq
        have qC := kC.cell
        have lC := kC.lt
        clear hq hlt
        go_wp2
        go_ret
        exact ⟨ret_i64 (by first | (rw [HRR.out, ← HCC.out, HQ.out]; done) | (simp [hqs, HRR.out, ← HCC.out, HQ.out])), hb⟩
  · have hRR : R = -1 := by
      rw [← HR.out]; unfold autR
      rw [if_neg (by rw [HE.out.1, HE.out.2]; exact hall)]
    subst hRR
    cases hx : nlB x with
    | false =>
      clear hall
      go_wp2
      go_ret
      exact ⟨rfl, hb2w⟩
    | true =>
      by_cases h7 : nx ≤ 7
      · have g1 : ¬ (7 : Int) < nx := by omega
        have g3 : decide ((7 : Int) < nx) = false := decide_eq_false g1
        have h10 : ¬ n ≤ 10 := fun q => hall ⟨hx, h7, q⟩
        have g2 : (10 : Int) < (n : Int) := by omega
        have g4 : decide ((10 : Int) < (n : Int)) = true := decide_eq_true g2
        clear hall hx
        go_wp2
        go_ret
        exact ⟨rfl, hb2w⟩
      · have g1 : (7 : Int) < nx := by omega
        have g3 : decide ((7 : Int) < nx) = true := decide_eq_true g1
        clear hall hx
        go_wp2
        go_ret
        exact ⟨rfl, hb2w⟩
end Go.Proofs.YtifbffianbgeaaaGreat
