/- Contracts and plain laws, part 4, for the statement's proof. -/
import Derived.Test.YtifbffianbgeaaaGreatPkExpLaw3
import Derived.BigRegion
import Derived.Deep.DeepCutAuto
import Derived.Deep.RegionHeld3
import Derived.Shelf.Abstract
import Derived.BigQuiet
namespace Go.Proofs.YtifbffianbgeaaaGreat
open Go.RowKit
set_option linter.unusedVariables false
set_option linter.unusedSimpArgs false
def roleOf (kind : Int) (k : Nat) : Int := if kind = 2 then 2 else min (k : Int) 1
def pHit (ci kind : Int) (pins : List Int) (net color role : Int) (k : Nat) : Bool := decide (ci = color) && (decide (pins.getD k 0 = net) && decide (roleOf kind k = role))
def pTo (ci kind : Int) (pins : List Int) (net color role : Int) (k : Nat) : List Int := (List.range k).flatMap fun j => if pHit ci kind pins net color role j = true then [color, role] else []
def dAt (ds : List Dv) (j : Nat) : Dv := ds.getD j ⟨0, [], 0, 0⟩
def dTo (ds : List Dv) (cs : List Int) (net color role : Int) (i : Nat) : List Int := (List.range i).flatMap fun j : Nat => pTo (nmOf cs (j : Int)) (dAt ds j).kind (dAt ds j).pins net color role (dAt ds j).pins.length
def rTo (ds : List Dv) (cs : List Int) (net color : Int) (r : Nat) : List Int := (List.range r).flatMap fun j : Nat => dTo ds cs net color (j : Int) ds.length
def cTo (ds : List Dv) (cs : List Int) (net : Int) (c : Nat) : List Int := (List.range c).flatMap fun j : Nat => rTo ds cs net (j : Int) 3
def netL' (x : Nl) (c : List Int × List Int) (net : Int) : List Int := [nmOf c.1 net] ++ cTo x.ds c.2 net 24
theorem flat_succ {α : Type} (f : Nat → List α) (k : Nat) : (List.range (k + 1)).flatMap f = (List.range k).flatMap f ++ f k := by
  rw [List.range_succ, List.flatMap_append]; simp
theorem flat_len {α : Type} (f : Nat → List α) (b n : Nat) (h : ∀ j, j < n → (f j).length ≤ b) : ((List.range n).flatMap f).length ≤ n * b := by
  induction n with
  | zero => simp
  | succ n ih =>
    rw [flat_succ, List.length_append, Nat.succ_mul]
    have := ih (fun j hj => h j (by omega))
    have := h n (by omega)
    omega
theorem pTo_succ (ci kind : Int) (pins : List Int) (net color role : Int) (k : Nat) : pTo ci kind pins net color role (k + 1) = pTo ci kind pins net color role k ++ (if pHit ci kind pins net color role k = true then [color, role] else []) := flat_succ _ k
theorem dTo_succ (ds : List Dv) (cs : List Int) (net color role : Int) (i : Nat) (d : Dv) (h : ds[i]? = some d) : dTo ds cs net color role (i + 1) = dTo ds cs net color role i ++ pTo (nmOf cs (i : Int)) d.kind d.pins net color role d.pins.length := by
  unfold dTo
  rw [flat_succ]
  simp [dAt, List.getD_eq_getElem?_getD, h]
theorem rTo_succ (ds : List Dv) (cs : List Int) (net color : Int) (r : Nat) : rTo ds cs net color (r + 1) = rTo ds cs net color r ++ dTo ds cs net color (r : Int) ds.length := flat_succ _ r
theorem cTo_succ (ds : List Dv) (cs : List Int) (net : Int) (c : Nat) : cTo ds cs net (c + 1) = cTo ds cs net c ++ rTo ds cs net (c : Int) 3 := flat_succ _ c
theorem pTo_len (ci kind : Int) (pins : List Int) (net color role : Int) (k : Nat) : (pTo ci kind pins net color role k).length ≤ k * 2 := flat_len _ 2 k (fun j _ => by split <;> simp)
theorem dTo_len {ds : List Dv} (hp : ∀ d ∈ ds, d.pins.length ≤ 3) (cs : List Int) (net color role : Int) (i : Nat) : (dTo ds cs net color role i).length ≤ i * 6 := flat_len _ 6 i (fun (j : Nat) _ => by
  have h := pTo_len (nmOf cs (j : Int)) (dAt ds j).kind (dAt ds j).pins net color role (dAt ds j).pins.length
  have h3 : (dAt ds j).pins.length ≤ 3 := by
    unfold dAt
    rw [List.getD_eq_getElem?_getD]
    cases e : ds[j]? with
    | none => simp
    | some d => exact hp d (List.mem_of_getElem? e)
  omega)
theorem rTo_len {ds : List Dv} (hp : ∀ d ∈ ds, d.pins.length ≤ 3) (cs : List Int) (net color : Int) (r : Nat) : (rTo ds cs net color r).length ≤ r * (ds.length * 6) := flat_len _ _ r (fun j _ => dTo_len hp _ _ _ _ _)
theorem cTo_len {ds : List Dv} (hp : ∀ d ∈ ds, d.pins.length ≤ 3) (cs : List Int) (net : Int) (c : Nat) : (cTo ds cs net c).length ≤ c * (3 * (ds.length * 6)) := flat_len _ _ c (fun j _ => rTo_len hp _ _ _ _)
/- The signature of a net: the reference's grouped pairs are the sorted pairs. -/
def occD (ci kind : Int) (pins : List Int) (net : Int) (k : Nat) : List (List Int) := (List.range k).flatMap fun j => if pins.getD j 0 = net then [[ci, roleOf kind j]] else []
def occs (ds : List Dv) (cs : List Int) (net : Int) (i : Nat) : List (List Int) := (List.range i).flatMap fun j : Nat => occD (nmOf cs (j : Int)) (dAt ds j).kind (dAt ds j).pins net (dAt ds j).pins.length
theorem occD_succ (ci kind : Int) (pins : List Int) (net : Int) (k : Nat) : occD ci kind pins net (k + 1) = occD ci kind pins net k ++ (if pins.getD k 0 = net then [[ci, roleOf kind k]] else []) := flat_succ _ k
theorem occs_succ (ds : List Dv) (cs : List Int) (net : Int) (i : Nat) (d : Dv) (h : ds[i]? = some d) : occs ds cs net (i + 1) = occs ds cs net i ++ occD (nmOf cs (i : Int)) d.kind d.pins net d.pins.length := by
  unfold occs
  rw [flat_succ]
  simp [dAt, List.getD_eq_getElem?_getD, h]
theorem occD_len (ci kind : Int) (pins : List Int) (net : Int) (k : Nat) : (occD ci kind pins net k).length ≤ k * 1 := flat_len _ 1 k (fun j _ => by split <;> simp)
theorem occs_len {ds : List Dv} (hp : ∀ d ∈ ds, d.pins.length ≤ 3) (cs : List Int) (net : Int) (i : Nat) : (occs ds cs net i).length ≤ i * 3 := flat_len _ 3 i (fun (j : Nat) _ => by
  have h := occD_len (nmOf cs (j : Int)) (dAt ds j).kind (dAt ds j).pins net (dAt ds j).pins.length
  have h3 : (dAt ds j).pins.length ≤ 3 := by
    unfold dAt
    rw [List.getD_eq_getElem?_getD]
    cases e : ds[j]? with
    | none => simp
    | some d => exact hp d (List.mem_of_getElem? e)
  omega)
theorem flat_filter (f : Nat → List (List Int)) (p : List Int → Bool) (n : Nat) : (((List.range n).flatMap f).filter p).flatten = (List.range n).flatMap fun j => ((f j).filter p).flatten := by
  induction n with
  | zero => simp
  | succ n ih => rw [flat_succ, flat_succ, List.filter_append, List.flatten_append, ih]
theorem flat_flat (f : Nat → List (List Int)) (n : Nat) : ((List.range n).flatMap f).flatten = (List.range n).flatMap fun j => (f j).flatten := by
  induction n with
  | zero => simp
  | succ n ih => rw [flat_succ, flat_succ, List.flatten_append, ih]
theorem pTo_occ (ci kind : Int) (pins : List Int) (net q r : Int) (k : Nat) : pTo ci kind pins net q r k = ((occD ci kind pins net k).filter fun o => decide (o = [q, r])).flatten := by
  unfold pTo occD
  rw [flat_filter]
  congr 1
  funext j
  unfold pHit
  by_cases h1 : pins.getD j 0 = net
  · by_cases h2 : ci = q <;> by_cases h3 : roleOf kind j = r <;> simp only [h1, h2, h3, if_true, decide_true, decide_false, Bool.and_true, Bool.and_false, Bool.false_eq_true, if_false, List.filter_cons, List.filter_nil] <;> simp [h2, h3]
  · simp only [h1, decide_false, Bool.false_and, Bool.and_false, Bool.false_eq_true, if_false, List.filter_nil, List.flatten_nil]
theorem dTo_occ (ds : List Dv) (cs : List Int) (net q r : Int) (i : Nat) : dTo ds cs net q r i = ((occs ds cs net i).filter fun o => decide (o = [q, r])).flatten := by
  unfold dTo occs
  rw [flat_filter]
  congr 1
  funext j
  exact pTo_occ _ _ _ _ _ _ _
def grp (O : List (List Int)) (a b : Nat) : List (List Int) := (List.range a).flatMap fun q : Nat => (List.range b).flatMap fun r : Nat => O.filter fun o => decide (o = [(q : Int), (r : Int)])
theorem cTo_occ (ds : List Dv) (cs : List Int) (net : Int) (c : Nat) : cTo ds cs net c = (grp (occs ds cs net ds.length) c 3).flatten := by
  unfold cTo grp rTo
  rw [flat_flat]
  congr 1
  funext q
  rw [flat_flat]
  congr 1
  funext r
  exact dTo_occ _ _ _ _ _ _
theorem count_flat (f : Nat → List (List Int)) (a : List Int) (k c : Nat) (h1 : ∀ j, j ≠ k → (f j).count a = 0) (h2 : (f k).count a = c) (n : Nat) : ((List.range n).flatMap f).count a = if k < n then c else 0 := by
  induction n with
  | zero => simp
  | succ n ih =>
    rw [flat_succ, List.count_append, ih]
    by_cases e : n = k
    · subst e; simp [h2]
    · rw [h1 n e]
      by_cases h : k < n
      · rw [if_pos h, if_pos (by omega)]; simp
      · rw [if_neg h, if_neg (by omega)]
theorem mem_grp {O : List (List Int)} {a b : Nat} {o : List Int} (h : o ∈ grp O a b) : o ∈ O := by
  simp only [grp, List.mem_flatMap, List.mem_filter] at h
  obtain ⟨_, _, _, _, h, _⟩ := h
  exact h
theorem grp_perm (O : List (List Int)) (a b : Nat) (h : ∀ o ∈ O, ∃ q r : Nat, q < a ∧ r < b ∧ o = [(q : Int), (r : Int)]) : (grp O a b).Perm O := by
  rw [List.perm_iff_count]
  intro o
  by_cases ho : o ∈ O
  · obtain ⟨q, r, hq, hr, rfl⟩ := h o ho
    have hc : ∀ q' r' : Nat, (O.filter fun o => decide (o = [(q' : Int), (r' : Int)])).count [(q : Int), (r : Int)] = if q' = q ∧ r' = r then O.count [(q : Int), (r : Int)] else 0 := by
      intro q' r'
      by_cases e : q' = q ∧ r' = r
      · rw [if_pos e, e.1, e.2]
        exact List.count_filter (by simp)
      · rw [if_neg e]
        apply List.count_eq_zero.2
        intro hm
        have := (List.mem_filter.1 hm).2
        simp at this
        omega
    unfold grp
    rw [count_flat _ _ q (O.count [(q : Int), (r : Int)]) (fun j hj => ?_) ?_, if_pos hq]
    · rw [count_flat _ _ r (O.count [(q : Int), (r : Int)]) (fun i hi => by rw [hc, if_neg (by omega)]) (by rw [hc, if_pos ⟨rfl, rfl⟩]), if_pos hr]
    · rw [count_flat _ _ r 0 (fun i hi => by rw [hc, if_neg (by omega)]) (by rw [hc, if_neg (by omega)])]
      simp
  · rw [List.count_eq_zero.2 ho, List.count_eq_zero.2 (fun hm => ho (mem_grp hm))]
theorem lcmp_pair (a b c d : Int) (h : a < c ∨ a = c ∧ b ≤ d) : lcmp [a, b] [c, d] ≤ 0 := by
  rw [lcmp_cc, lcmp_cc, lcmp_nn]
  rcases sgn_cases a c with ⟨_, e⟩ | ⟨_, e⟩ | ⟨_, e⟩ <;> rcases sgn_cases b d with ⟨_, e'⟩ | ⟨_, e'⟩ | ⟨_, e'⟩ <;> rw [e, e'] <;> simp <;> omega
theorem grp_sorted (O : List (List Int)) (a b : Nat) : (grp O a b).Pairwise fun x y => lcmp x y ≤ 0 := by
  unfold grp
  rw [List.pairwise_flatMap]
  refine ⟨fun q _ => ?_, List.pairwise_lt_range.imp ?_⟩
  · rw [List.pairwise_flatMap]
    refine ⟨fun r _ => ?_, List.pairwise_lt_range.imp ?_⟩
    · refine List.pairwise_of_forall_mem_list fun x hx y hy => ?_
      have h1 := (List.mem_filter.1 hx).2
      have h2 := (List.mem_filter.1 hy).2
      simp at h1 h2
      subst h1
      subst h2
      rw [lcmp_self]
      simp
    · intro r r' hr x hx y hy
      have h1 := (List.mem_filter.1 hx).2
      have h2 := (List.mem_filter.1 hy).2
      simp at h1 h2
      subst h1
      subst h2
      exact lcmp_pair _ _ _ _ (.inr ⟨rfl, by omega⟩)
  · intro q q' hq x hx y hy
    simp only [List.mem_flatMap, List.mem_filter, decide_eq_true_eq] at hx hy
    obtain ⟨_, _, _, rfl⟩ := hx
    obtain ⟨_, _, _, rfl⟩ := hy
    exact lcmp_pair _ _ _ _ (.inl (by omega))
theorem netL_sorted (x : Nl) (c : List Int × List Int) (net : Int) (S : List (List Int)) (hS : S.Perm (occs x.ds c.2 net x.ds.length)) (hP : S.Pairwise fun a b => lcmp a b ≤ 0)
    (hO : ∀ o ∈ occs x.ds c.2 net x.ds.length, ∃ q r : Nat, q < 24 ∧ r < 3 ∧ o = [(q : Int), (r : Int)]) : [nmOf c.1 net] ++ S.flatten = netL' x c net := by
  have e : S = grp (occs x.ds c.2 net x.ds.length) 24 3 :=
    List.Perm.eq_of_pairwise (fun a b _ _ h1 h2 => (lcmp_zero a b).1 (by have := lcmp_flip a b; omega)) hP (grp_sorted _ _ _) (hS.trans (grp_perm _ _ _ hO).symm)
  rw [e]
  unfold netL'
  rw [cTo_occ]
/- The reference's l29Role and l29Net. -/
set_option maxRecDepth 100000 in
theorem l29Role_any (kind wd len : Int) (a : Option Addr) (n c : Nat) (k : Nat) (hk : k ≤ 1000) (w : World) :
    Calls Tryz.prog 163 #[.agg #[.int .i64 kind, .slice a n c, .int .i64 wd, .int .i64 len], .int .i64 (k : Int)] w fun e w' => e = .returned (.int .i64 (roleOf kind k)) ∧ Below w.heap.size w w' := by
  obtain ⟨r, hr⟩ : ∃ r, roleOf kind k = r := ⟨_, rfl⟩
  rw [hr]
  unfold roleOf at hr
  by_cases h2 : kind = 2
  · subst h2
    have HR := Lib.hid (show (2 : Int) = r by simpa using hr)
    clear hr
    go_enter Tryz.func163, Tryz.ntmps163
    go_wp2
    go_ret
    exact ⟨ret_i64 HR.out, blwT⟩
  · have e1 : (kind == 2) = false := by simpa using h2
    have HR := Lib.hid (show min (k : Int) 1 = r by rw [if_neg h2] at hr; exact hr)
    clear hr h2
    go_enter Tryz.func163, Tryz.ntmps163
    go_wp2
    all_goals go_ret
    all_goals exact ⟨ret_i64 (by rw [← HR.out]; omega), blwT⟩
set_option maxRecDepth 100000 in
set_option maxHeartbeats 4000000 in
theorem specNet_any (x : Nl) (c : List Int × List Int) (net : Nat) (v u : Value) (w : World) (h : NlV w v x) (hc : CoV w u c) (hnet : net < c.1.length) (hcd : c.2.length = x.ds.length) (hl : x.ds.length ≤ 24) (hpn : ∀ d ∈ x.ds, d.pins.length ≤ 3) :
    Calls Tryz.prog 137 #[v, u, .int .i64 (net : Int)] w fun e w' => ∃ v', e = .returned v' ∧ OwnR w' w.heap.size w'.heap.size v' (netL' x c net) ∧ Below w.heap.size w w' := by
  obtain ⟨s1, s2, rfl, hd, hp⟩ := h
  obtain ⟨t1, t2, rfl, hc1, hc2⟩ := hc
  obtain ⟨nets, ds, ps⟩ := x
  obtain ⟨cn, cd⟩ := c
  dsimp only at hd hp hc1 hc2 hnet hcd hl hpn
  obtain ⟨Y, hY⟩ : ∃ Y, netL' ⟨nets, ds, ps⟩ (cn, cd) net = Y := ⟨_, rfl⟩
  rw [hY]
  obtain ⟨c0, hc0⟩ : ∃ z, cn[net]? = some z := ⟨cn[net], List.getElem?_eq_getElem hnet⟩
  have hc0' : nmOf cn (net : Int) = c0 := by simp [nmOf, List.getD_eq_getElem?_getD, hc0]
  have HY := Lib.hid (show [c0] ++ cTo ds cd net 24 = Y by rw [← hY, ← hc0']; rfl)
  have HD := Lib.hid hd
  have HC2 := Lib.hid hc2
  have HCD := Lib.hid hcd
  have HPN := Lib.hid hpn
  have HS1 := Lib.hid (fun c => cTo_succ ds cd (net : Int) c)
  have HS2 := Lib.hid (fun col r => rTo_succ ds cd (net : Int) col r)
  have HS3 := Lib.hid (fun col r i d => dTo_succ ds cd (net : Int) col r i d)
  have HS4 := Lib.hid (fun ci kind pins col r k => pTo_succ ci kind pins (net : Int) col r k)
  have HL1 := Lib.hid (fun c => cTo_len hpn cd (net : Int) c)
  have HL2 := Lib.hid (fun col r => rTo_len hpn cd (net : Int) col r)
  have HL3 := Lib.hid (fun col r i => dTo_len hpn cd (net : Int) col r i)
  have HL4 := Lib.hid (fun ci kind pins col r k => pTo_len ci kind pins (net : Int) col r k)
  have HZ1 := Lib.hid (show cTo ds cd (net : Int) 0 = [] from rfl)
  have HZ2 := Lib.hid (fun col => show rTo ds cd (net : Int) col 0 = [] from rfl)
  have HZ3 := Lib.hid (fun col r => show dTo ds cd (net : Int) col r 0 = [] from rfl)
  have HZ4 := Lib.hid (fun ci kind pins col r => show pTo ci kind pins (net : Int) col r 0 = [] from rfl)
  obtain ⟨a1, c1, rfl⟩ := hd.sized
  obtain ⟨a2, c2, rfl⟩ := hp.sized
  have hc1' := hc1
  obtain ⟨b1, d1, rfl⟩ := hc1.len
  obtain ⟨b2, d2, rfl⟩ := hc2.len
  rcases hc1' with ⟨_, _, _, e2⟩ | ⟨nb, no, nc, hen, _, _, hcn⟩
  · rw [e2] at hnet; simp at hnet
  obtain ⟨rfl, rfl⟩ : b1 = some ⟨nb, no, none⟩ ∧ d1 = nc := by simpa using hen
  have cc := hcn net c0 hc0
  have lc := lt_of_cell cc
  dsimp only at lc
  have m1 : (0 : Int) ≤ (net : Int) := by omega
  have m2 : (net : Int) < (cn.length : Int) := by omega
  clear hd hp hc1 hc2 hY hcd hpn hen hcn hc0 hc0' hnet
  go_enter Tryz.func137, Tryz.ntmps137
  go_wp2
  clear cc
  go_loopw [7, 8, 9, 10, 11] (fun o cl _ _ _ wr => ∃ (q hi : Nat), (q ≤ 24 ∧ cl = .int .i64 q) ∧ Hid (BldI wr (w.heap.size + 1 + 1) hi o ([c0] ++ cTo ds cd (net : Int) q)) ∧ (w.heap.size + 1 + 1) < hi ∧ Blk wr w.heap.size #[.int .i64 nets, .slice a1 ds.length c1, .slice a2 ps.length c2] 35 ∧ Blk wr (w.heap.size + 1) #[.slice (some ⟨nb, no, none⟩) cn.length d1, .slice b2 cd.length d2] 81 ∧ Below w.heap.size w wr) (fun _ cl _ _ _ _ => 24 - (intOf cl).toNat)
  case atStart =>
    refine ⟨0, w.heap.size + 1 + 1 + 1, ⟨Nat.zero_le _, rfl⟩, Lib.hid ?_, by omega, blkT, blkT, blwT⟩
    rw [HZ1.out]
    exact BldI.lit (zs := [c0]) (cs := #[.int .i64 c0]) (Blk.new _ (by simp)) rfl (by simp) (Nat.le_refl _) (by omega) (by simp)
  case round =>
    obtain ⟨q, hi, ⟨hq, rfl⟩, HB, hhi, kA, kC, hb⟩ := hrel
    obtain ⟨ao, co, rfl⟩ := HB.out.sized
    by_cases hlq : q < 24
    · have q1 : (q : Int) < 24 := by omega
      go_wp2
      go_loopw [7, 9, 10, 11] (fun o rl _ _ wr => ∃ (r hi : Nat), (r ≤ 3 ∧ rl = .int .i64 r) ∧ Hid (BldI wr (w.heap.size + 1 + 1) hi o ([c0] ++ cTo ds cd (net : Int) q ++ rTo ds cd (net : Int) (q : Int) r)) ∧ (w.heap.size + 1 + 1) < hi ∧ Blk wr w.heap.size #[.int .i64 nets, .slice a1 ds.length c1, .slice a2 ps.length c2] 35 ∧ Blk wr (w.heap.size + 1) #[.slice (some ⟨nb, no, none⟩) cn.length d1, .slice b2 cd.length d2] 81 ∧ Below w.heap.size w wr) (fun _ rl _ _ _ => 3 - (intOf rl).toNat)
      case atStart => exact ⟨0, hi, ⟨Nat.zero_le _, rfl⟩, Lib.hid (by rw [HZ2.out, List.append_nil]; exact HB.out), hhi, kA, kC, hb⟩
      case round =>
        clear HB kA kC hb hhi
        obtain ⟨r, hi, ⟨hr, rfl⟩, HB, hhi, kA, kC, hb⟩ := hrel
        obtain ⟨ao, co, rfl⟩ := HB.out.sized
        by_cases hlr : r < 3
        · have r1 : (r : Int) < 3 := by omega
          go_wp2
          go_loopw [7, 10, 11] (fun o il _ wr => ∃ (i hi : Nat), (i ≤ ds.length ∧ il = .int .i64 i) ∧ Hid (BldI wr (w.heap.size + 1 + 1) hi o ([c0] ++ cTo ds cd (net : Int) q ++ rTo ds cd (net : Int) (q : Int) r ++ dTo ds cd (net : Int) (q : Int) (r : Int) i)) ∧ (w.heap.size + 1 + 1) < hi ∧ Blk wr w.heap.size #[.int .i64 nets, .slice a1 ds.length c1, .slice a2 ps.length c2] 35 ∧ Blk wr (w.heap.size + 1) #[.slice (some ⟨nb, no, none⟩) cn.length d1, .slice b2 cd.length d2] 81 ∧ Below w.heap.size w wr) (fun _ il _ _ => ds.length - (intOf il).toNat)
          case atStart => exact ⟨0, hi, ⟨Nat.zero_le _, rfl⟩, Lib.hid (by rw [HZ3.out, List.append_nil]; exact HB.out), hhi, kA, kC, hb⟩
          case round =>
            clear HB kA kC hb hhi
            obtain ⟨i, hi, ⟨hil, rfl⟩, HB, hhi, kA, kC, hb⟩ := hrel
            obtain ⟨ao, co, rfl⟩ := HB.out.sized
            have qA := kA.cell
            have lA := kA.lt
            by_cases hli : i < ds.length
            · obtain ⟨d, hd⟩ : ∃ d, ds[i]? = some d := ⟨ds[i], List.getElem?_eq_getElem hli⟩
              obtain ⟨ci, hci⟩ : ∃ z, cd[i]? = some z := ⟨cd[i]'(by rw [HCD.out]; exact hli), List.getElem?_eq_getElem _⟩
              have hci' : nmOf cd (i : Int) = ci := by simp [nmOf, List.getD_eq_getElem?_getD, hci]
              rcases HD.out with ⟨_, _, _, e2⟩ | ⟨db, do_, dc, he, _, _, h4⟩
              · rw [e2] at hd; simp at hd
              obtain ⟨rfl, rfl⟩ : a1 = some ⟨db, do_, none⟩ ∧ c1 = dc := by simpa using he
              rcases HC2.out with ⟨_, _, _, e2⟩ | ⟨eb, eo, ec, he', _, _, h5⟩
              · rw [e2] at hci; simp at hci
              obtain ⟨rfl, rfl⟩ : b2 = some ⟨eb, eo, none⟩ ∧ d2 = ec := by simpa using he'
              obtain ⟨sp, w1, w2, w3, w4, hS⟩ := h4 i d hd
              have w5 := h5 i ci hci
              have h3 := HPN.out d (List.mem_of_getElem? hd)
              have HST := Lib.hid (show dTo ds cd (net : Int) (q : Int) (r : Int) (i + 1) = dTo ds cd (net : Int) (q : Int) (r : Int) i ++ pTo ci d.kind d.pins (net : Int) (q : Int) (r : Int) d.pins.length by rw [HS3.out _ _ _ _ hd, hci'])
              have HW1 := Lib.hid w1
              have HW2 := Lib.hid w2
              have HW3 := Lib.hid w3
              have HW4 := Lib.hid w4
              have HW5 := Lib.hid w5
              have HSP := Lib.hid hS
              obtain ⟨ap, cp, rfl⟩ := hS.len
              have i1 : (0 : Int) ≤ (i : Int) := by omega
              have i2 : (i : Int) < (ds.length : Int) := by omega
              have i3 : (i : Int) < (cd.length : Int) := by have := HCD.out; omega
              clear hd hci hci' he he' h4 h5 hS w1 w2 w3 w4 w5
              go_wp2
              go_loopw [7, 11] (fun o kl wr => ∃ (k hi : Nat), (k ≤ d.pins.length ∧ kl = .int .i64 k) ∧ Hid (BldI wr (w.heap.size + 1 + 1) hi o ([c0] ++ cTo ds cd (net : Int) q ++ rTo ds cd (net : Int) (q : Int) r ++ dTo ds cd (net : Int) (q : Int) (r : Int) i ++ pTo ci d.kind d.pins (net : Int) (q : Int) (r : Int) k)) ∧ (w.heap.size + 1 + 1) < hi ∧ Blk wr w.heap.size #[.int .i64 nets, .slice (some ⟨db, do_, none⟩) ds.length c1, .slice a2 ps.length c2] 35 ∧ Blk wr (w.heap.size + 1) #[.slice (some ⟨nb, no, none⟩) cn.length d1, .slice (some ⟨eb, eo, none⟩) cd.length d2] 81 ∧ Below w.heap.size w wr) (fun _ kl _ => d.pins.length - (intOf kl).toNat)
              case atStart => exact ⟨0, hi, ⟨Nat.zero_le _, rfl⟩, Lib.hid (by rw [HZ4.out, List.append_nil]; exact HB.out), hhi, kA, kC, hb⟩
              case round =>
                clear HB kA kC hb hhi qA lA
                obtain ⟨k, hi, ⟨hkl, rfl⟩, HB, hhi, kA, kC, hb⟩ := hrel
                obtain ⟨ao, co, rfl⟩ := HB.out.sized
                have qA := kA.cell
                have qC := kC.cell
                have lA := kA.lt
                have w1 := cell_by' hb HW1.out
                have w2 := cell_by' hb HW2.out
                have w3 := cell_by' hb HW3.out
                have w4 := cell_by' hb HW4.out
                have w5 := cell_by' hb HW5.out
                by_cases hlk : k < d.pins.length
                · obtain ⟨p, hp⟩ : ∃ z, d.pins[k]? = some z := ⟨d.pins[k], List.getElem?_eq_getElem hlk⟩
                  have hgp : d.pins.getD k 0 = p := by simp [List.getD_eq_getElem?_getD, hp]
                  obtain ⟨Z, hZ⟩ : ∃ Z, [c0] ++ cTo ds cd (net : Int) q ++ rTo ds cd (net : Int) (q : Int) r ++ dTo ds cd (net : Int) (q : Int) (r : Int) i ++ pTo ci d.kind d.pins (net : Int) (q : Int) (r : Int) k = Z := ⟨_, rfl⟩
                  have hlen : Z.length + 2 ≤ 8000000 := by
                    rw [← hZ]
                    have l1 := HL1.out q
                    have l2 := HL2.out (q : Int) r
                    have l3 := HL3.out (q : Int) (r : Int) i
                    have l4 := HL4.out ci d.kind d.pins (q : Int) (r : Int) k
                    have l5 : q * (3 * (ds.length * 6)) ≤ 24 * (3 * (24 * 6)) := Nat.mul_le_mul hq (by omega)
                    have l6 : r * (ds.length * 6) ≤ 3 * (24 * 6) := Nat.mul_le_mul hr (by omega)
                    simp only [List.length_append, List.length_singleton]
                    omega
                  have HY1 := Lib.hid (show ci = (q : Int) → p = (net : Int) → roleOf d.kind k = (r : Int) → [c0] ++ cTo ds cd (net : Int) q ++ rTo ds cd (net : Int) (q : Int) r ++ dTo ds cd (net : Int) (q : Int) (r : Int) i ++ pTo ci d.kind d.pins (net : Int) (q : Int) (r : Int) (k + 1) = Z ++ [(q : Int), (r : Int)] from fun h1 h2 h3 => by rw [HS4.out, if_pos (by simp [pHit, h1, h3, hp, h2]), ← List.append_assoc, hZ])
                  have HN1 := Lib.hid (show ¬ (ci = (q : Int) ∧ p = (net : Int) ∧ roleOf d.kind k = (r : Int)) → [c0] ++ cTo ds cd (net : Int) q ++ rTo ds cd (net : Int) (q : Int) r ++ dTo ds cd (net : Int) (q : Int) (r : Int) i ++ pTo ci d.kind d.pins (net : Int) (q : Int) (r : Int) (k + 1) = Z from fun h1 => by rw [HS4.out, if_neg (by simpa [pHit, hp] using h1), List.append_nil, hZ])
                  have HBZ : Hid (BldI wr (w.heap.size + 1 + 1) hi (.slice ao Z.length co) Z) := by
                    have := HB.out
                    rw [hZ] at this
                    exact Lib.hid this
                  have hZl : ([c0] ++ cTo ds cd (net : Int) q ++ rTo ds cd (net : Int) (q : Int) r ++ dTo ds cd (net : Int) (q : Int) (r : Int) i ++ pTo ci d.kind d.pins (net : Int) (q : Int) (r : Int) k).length = Z.length := by rw [hZ]
                  rw [hZl]
                  clear HB hZ hZl
                  rcases HSP.out with ⟨_, _, _, e2⟩ | ⟨pb, po, pc, hep, _, _, hpp⟩
                  · rw [e2] at hp; simp at hp
                  obtain ⟨rfl, rfl⟩ : ap = some ⟨pb, po, none⟩ ∧ cp = pc := by simpa using hep
                  have w6 := cell_by' hb (hpp k p hp)
                  have HRO := Lib.hid (fun w => l29Role_any d.kind d.wd d.len (some ⟨pb, po, none⟩) d.pins.length cp k (by omega) w)
                  obtain ⟨ro, hro⟩ : ∃ ro, roleOf d.kind k = ro := ⟨_, rfl⟩
                  rw [hro] at HRO HY1 HN1
                  have k1 : (0 : Int) ≤ (k : Int) := by omega
                  have k2 : (k : Int) < (d.pins.length : Int) := by omega
                  have HLN := Lib.hid hlen
                  clear hp hgp hep hpp hro hlen
                  by_cases e1 : ci = (q : Int)
                  · obtain rfl := e1
                    by_cases e2 : p = (net : Int)
                    · obtain rfl := e2
                      go_wp2_with fail
                      refine (HRO.out _).mono ?_
                      rintro e w1 ⟨rfl, hb1⟩
                      have HB1 := Lib.hid (HBZ.out.by hb1)
                      have kA1 := Blk.by hb1 kA
                      have kC1 := Blk.by hb1 kC
                      have hw1 := below_on hb1 hb
                      have s1 := hb1.size
                      clear hb1
                      by_cases e3 : ro = (r : Int)
                      · obtain rfl := e3
                        have HY2 := Lib.hid (HY1.out (by first | trivial | rfl) (by first | trivial | rfl) (by first | trivial | rfl))
                        clear HY1 HN1
                        go_wp2_with (refine list_pushI (by rfl) _ _ (by rfl) (w.heap.size + 1 + 1) hi (.slice ao Z.length co) Z [(q : Int), (r : Int)] (by rfl) (HB1.out.by blwT) w1.heap.size 2 _ (by rfl) (by rfl) (by omega) (Blk.new _ rfl) (by simp [icells] <;> omega) (by omega) HLN.out ?_; intro a4 c4 w4 hB4 hw4; have HB4 := Lib.hid hB4; have hW4 : Below w.heap.size w w4 := hw4.below (by first | exact blwT) (by omega); have kA4 : Blk w4 w.heap.size #[.int .i64 nets, .slice (some ⟨db, do_, none⟩) ds.length c1, .slice a2 ps.length c2] 35 := hw4.blk blkT (by omega); have kC4 : Blk w4 (w.heap.size + 1) #[.slice (some ⟨nb, no, none⟩) cn.length d1, .slice (some ⟨eb, eo, none⟩) cd.length d2] 81 := hw4.blk blkT (by omega); have s4 := hB4.1; clear hB4)
                        refine ⟨⟨k + 1, w4.heap.size, ⟨by omega, by go_num⟩, Lib.hid ?_, ?_, kA4, kC4, hW4⟩, by simp [intOf]; omega⟩
                        · rw [HY2.out]
                          exact HB4.out
                        · have h1 := hw4.size; have h2 := HB1.out.1; simp at h1; omega
                      · have e3' : (ro == (r : Int)) = false := by simpa using e3
                        go_wp2
                        refine ⟨⟨k + 1, hi, ⟨by omega, by go_num⟩, Lib.hid ?_, hhi, kA1, kC1, hw1⟩, by simp [intOf]; omega⟩
                        rw [HN1.out (fun h => e3 h.2.2)]
                        exact HB1.out
                    · have e2' : (p == (net : Int)) = false := by simpa using e2
                      go_wp2
                      refine ⟨⟨k + 1, hi, ⟨by omega, by go_num⟩, Lib.hid ?_, hhi, kA, kC, hb⟩, by simp [intOf]; omega⟩
                      rw [HN1.out (fun h => e2 h.2.1)]
                      exact HBZ.out
                  · have e1' : (ci == (q : Int)) = false := by simpa using e1
                    go_wp2
                    refine ⟨⟨k + 1, hi, ⟨by omega, by go_num⟩, Lib.hid ?_, hhi, kA, kC, hb⟩, by simp [intOf]; omega⟩
                    rw [HN1.out (fun h => e1 h.1)]
                    exact HBZ.out
                · obtain rfl : k = d.pins.length := by omega
                  go_wp2
                  refine ⟨⟨i + 1, hi, ⟨by omega, by go_num⟩, Lib.hid ?_, hhi, kA, kC, hb⟩, by simp [intOf]; omega⟩
                  rw [HST.out, ← List.append_assoc]
                  exact HB.out
            · obtain rfl : i = ds.length := by omega
              go_wp2
              refine ⟨⟨r + 1, hi, ⟨by omega, by go_num⟩, Lib.hid ?_, hhi, kA, kC, hb⟩, by simp [intOf]; omega⟩
              rw [HS2.out, ← List.append_assoc]
              exact HB.out
        · obtain rfl : r = 3 := by omega
          have r1 : ¬ ((3 : Nat) : Int) < 3 := by omega
          go_wp2
          refine ⟨⟨q + 1, hi, ⟨by omega, by go_num⟩, Lib.hid ?_, hhi, kA, kC, hb⟩, by simp [intOf]; omega⟩
          rw [HS1.out, ← List.append_assoc]
          exact HB.out
    · obtain rfl : q = 24 := by omega
      have q1 : ¬ ((24 : Nat) : Int) < 24 := by omega
      have hfin := HB.out
      rw [HY.out] at hfin
      have HF := Lib.hid hfin
      have hYl : ([c0] ++ cTo ds cd (net : Int) 24).length = Y.length := by rw [HY.out]
      rw [hYl]
      clear HB hfin hYl
      go_wp2
      go_ret
      exact ⟨_, rfl, OwnR.wide' HF.out.own (show w.heap.size ≤ w.heap.size + 1 + 1 by omega) HF.out.1, hb⟩
theorem coB_facts {x : Nl} {c : List Int × List Int} (h : coB x c = true) : x.ds.length ≤ 24 ∧ c.1.length ≤ 24 ∧ c.2.length = x.ds.length ∧ (∀ d ∈ x.ds, Shp d ∧ ∀ p ∈ d.pins, 0 ≤ p ∧ p < c.1.length) := by
  simp only [coB, colsB, Bool.and_eq_true, decide_eq_true_eq] at h
  obtain ⟨hb, ⟨_, h1⟩, _, h2⟩ := h
  obtain ⟨⟨_, hn1⟩, hd24, _, hdv, _⟩ := nlB_facts hb
  exact ⟨hd24, by omega, by omega, fun d hd => ⟨shp_of (hdv d hd), fun p hp => by have := (dvB_pins (hdv d hd)).2.2 p hp; omega⟩⟩
/- The reference's NetSignature, and the program's closure that compares pairs. -/
theorem coB_nets {x : Nl} {c : List Int × List Int} (h : coB x c = true) : (c.1.length : Int) = x.nets ∧ (0 ≤ x.nets ∧ x.nets ≤ 24) ∧ (∀ d ∈ x.ds, d.pins.length ≤ 3) ∧ (∀ z ∈ c.2, 0 ≤ z ∧ z < 24) := by
  simp only [coB, colsB, Bool.and_eq_true, decide_eq_true_eq, List.all_eq_true] at h
  obtain ⟨hb, ⟨_, h1⟩, h3, h2⟩ := h
  obtain ⟨hn, hd24, _, hdv, _⟩ := nlB_facts hb
  exact ⟨h1, hn, fun d hd => (dvB_pins (hdv d hd)).1, fun z hz => by have := inB_iff.1 (h3 z hz); omega⟩
theorem occs_ok {x : Nl} {c : List Int × List Int} (h : coB x c = true) (net : Int) : ∀ o ∈ occs x.ds c.2 net x.ds.length, ∃ q r : Nat, q < 24 ∧ r < 3 ∧ o = [(q : Int), (r : Int)] := by
  obtain ⟨_, _, _, h4⟩ := coB_nets h
  obtain ⟨_, _, h5, _⟩ := coB_facts h
  intro o ho
  simp only [occs, occD, List.mem_flatMap, List.mem_range] at ho
  obtain ⟨j, hj, k, hk, hm⟩ := ho
  split at hm
  · simp only [List.mem_singleton] at hm
    have hz : nmOf c.2 (j : Int) ∈ c.2 := by
      have hj' : j < c.2.length := by omega
      have : nmOf c.2 (j : Int) = c.2[j] := by simp [nmOf, List.getD_eq_getElem?_getD, List.getElem?_eq_getElem hj']
      rw [this]
      exact List.getElem_mem hj'
    have := h4 _ hz
    have hr : 0 ≤ roleOf (dAt x.ds j).kind k ∧ roleOf (dAt x.ds j).kind k < 3 := by unfold roleOf; split <;> omega
    refine ⟨(nmOf c.2 (j : Int)).toNat, (roleOf (dAt x.ds j).kind k).toNat, by omega, by omega, ?_⟩
    rw [hm, Int.toNat_of_nonneg this.1, Int.toNat_of_nonneg hr.1]
  · simp at hm
set_option maxRecDepth 100000 in
theorem nsig1_any (s1 s2 : Value) (xs ys : List Int) (w : World) (h : IntSl w s1 xs) (h' : IntSl w s2 ys) :
    Calls Tryz.prog 176 #[s1, s2] w fun e w' => e = .returned (.int .i64 (lcmp xs ys)) ∧ ∃ n, w' = w.drewN n := by
  have HC := Lib.hid (slicesCompare_any s1 s2 xs ys w h h')
  obtain ⟨a, c, rfl⟩ := h.len
  obtain ⟨a', c', rfl⟩ := h'.len
  generalize lcmp xs ys = r at *
  clear h h'
  go_enter Tryz.func176, Tryz.ntmps176
  go_wp2_with fail
  refine HC.out.mono ?_
  rintro e w1 ⟨rfl, n, rfl⟩
  go_wp2
  go_ret
  exact ⟨rfl, n, rfl⟩
def dsgT (a b : Int) : List Int := [min a b, max a b]
def dsgL (d : Dv) (ck : Int) (cn : List Int) : List Int := (if d.kind = 2 then [ck] else [ck, nmOf cn (gateOf d.pins)]) ++ dsgT (nmOf cn (curP d.pins)) (nmOf cn (curQ d.pins))
theorem dsgL_r {d : Dv} {p q : Int} (h : d.kind = 2) (hp : d.pins = [p, q]) (ck : Int) (cn : List Int) : dsgL d ck cn = [ck] ++ dsgT (nmOf cn p) (nmOf cn q) := by simp [dsgL, h, hp, curP, curQ]
theorem dsgL_m {d : Dv} {g p q : Int} (h : ¬ d.kind = 2) (hp : d.pins = [g, p, q]) (ck : Int) (cn : List Int) : dsgL d ck cn = [ck, nmOf cn g] ++ dsgT (nmOf cn p) (nmOf cn q) := by simp [dsgL, h, hp, curP, curQ, gateOf]
theorem IntSl.nm {w : World} {sv : Value} {zs : List Int} (h : IntSl w sv zs) (h0 : 0 < zs.length) : ∃ b off cap, sv = .slice (some ⟨b, off, none⟩) zs.length cap ∧ b < w.heap.size ∧ ∀ k : Nat, k < zs.length → w.cell? ⟨b, off + k, none⟩ = some (.int .i64 (nmOf zs k)) := by
  rcases h with ⟨_, _, _, h2⟩ | ⟨b, off, cap, hsv, h2, h3, h4⟩
  · rw [h2] at h0; simp at h0
  have hc : ∀ k : Nat, k < zs.length → w.cell? ⟨b, off + k, none⟩ = some (.int .i64 (nmOf zs k)) := by
    intro k hk
    refine h4 k _ ?_
    simp [nmOf, List.getD_eq_getElem?_getD, List.getElem?_eq_getElem hk]
  refine ⟨b, off, cap, hsv, ?_, hc⟩
  rcases Nat.lt_or_ge b w.heap.size with h' | h'
  · exact h'
  · have := hc 0 h0
    simp [World.cell?, Array.getElem?_eq_none h'] at this
/- The signature of a device: the reference's. -/
set_option maxRecDepth 100000 in
set_option maxHeartbeats 4000000 in
theorem l29Dev_r (x : Nl) (cn cd : List Int) (k : Nat) (d : Dv) (p q : Nat) (v : Value) (sn sd : Value) (w : World) (h : NlV w v x) (hn : IntSl w sn cn) (hd : IntSl w sd cd) (hx : x.ds[k]? = some d) (hk : k < cd.length) (hk2 : d.kind = 2) (hpins : d.pins = [(p : Int), (q : Int)]) (hp : p < cn.length) (hq : q < cn.length) (hl : x.ds.length ≤ 24) (hcn : cn.length ≤ 24) :
    Calls Tryz.prog 138 #[v, .agg #[sn, sd], .int .i64 k] w fun e w' => ∃ v', e = .returned v' ∧ OwnR w' w.heap.size w'.heap.size v' ([nmOf cd k] ++ dsgT (nmOf cn p) (nmOf cn q)) ∧ Below w.heap.size w w' := by
  obtain ⟨s1, s2, rfl, hD, hP⟩ := h
  obtain ⟨a2, c2, rfl⟩ := hP.sized
  have hkl : k < x.ds.length := (List.getElem?_eq_some_iff.1 hx).1
  rcases hD with ⟨_, _, _, h2⟩ | ⟨b, off, cap, rfl, h2, h3, h4⟩
  · rw [h2] at hkl; simp at hkl
  obtain ⟨sv, e1, e2, e3, e4, hS⟩ := h4 k d hx
  rw [hpins] at hS
  obtain ⟨pb, po, pc, rfl, p0, p1, lp⟩ := hS.two
  obtain ⟨nb, no, nc, rfl, ln, cN⟩ := hn.nm (by omega)
  obtain ⟨db, eo, dc, rfl, ld, cD⟩ := hd.nm (by omega)
  have f1 := cN p hp
  have f2 := cN q hq
  have f3 := cD k hk
  rw [hk2] at e1
  have lb := lt_of_cell e1
  dsimp only at lb
  have i1 : (0 : Int) ≤ (k : Int) := by omega
  have i2 : (k : Int) < (x.ds.length : Int) := by omega
  have i3 : (k : Int) < (cd.length : Int) := by omega
  have i4 : (0 : Int) ≤ (p : Int) := by omega
  have i5 : (p : Int) < (cn.length : Int) := by omega
  have i6 : (0 : Int) ≤ (q : Int) := by omega
  have i7 : (q : Int) < (cn.length : Int) := by omega
  have HF := Lib.hid (fun w => l28First_any 2 d.wd d.len (some ⟨pb, po, none⟩) 0 pc (by omega) w)
  unfold dsgT
  generalize nmOf cn (p : Int) = A at *
  generalize nmOf cn (q : Int) = B at *
  generalize nmOf cd (k : Int) = C at *
  generalize x.ds.length = n1 at *
  generalize x.ps.length = n2 at *
  generalize cn.length = n3 at *
  generalize cd.length = n4 at *
  clear cN cD hn hd hS h4 hP hx hpins h2 h3 hkl hk2
  go_enter Tryz.func138, Tryz.ntmps138
  go_upto_region 1 with fail
  go_cut [7] (fun s7 wx => s7 = .pointer (some ⟨w.heap.size + 1 + 1, 0, none⟩) ∧ Blk wx w.heap.size #[.int .i64 x.nets, .slice (some ⟨b, off, none⟩) n1 cap, .slice a2 n2 c2] 35 ∧ Blk wx (w.heap.size + 1) #[.slice (some ⟨nb, no, none⟩) n3 nc, .slice (some ⟨db, eo, none⟩) n4 dc] 81 ∧ Blk wx (w.heap.size + 1 + 1) #[.int .i64 2, .slice (some ⟨pb, po, none⟩) 2 pc, .int .i64 d.wd, .int .i64 d.len] 62 ∧ Below w.heap.size w wx)
  case first =>
    go_wp2_with fail
    go_meet
    exact ⟨rfl, blkT, blkT, blkT, blwT⟩
  case rest =>
    obtain ⟨rfl, kA, kB, kD, hW⟩ := hcut
    have g1 := cell_by' hW f1
    have g2 := cell_by' hW f2
    have g3 := cell_by' hW f3
    have r0 := cell_by' hW p0
    have r1 := cell_by' hW p1
    have lD := kD.lt
    have qB := kB.cell
    have qD := kD.cell
    have hsz := hW.size
    have hl1 : nb < wc.heap.size := by omega
    have hl2 : db < wc.heap.size := by omega
    have hl3 : pb < wc.heap.size := by omega
    go_wp2_with fail
    refine (HF.out _).mono ?_
    rintro e w1 ⟨rfl, hb1⟩
    have HB1 := Lib.hid (BldI.lit (zs := [C]) (lo := w.heap.size) (hi := wc.heap.size + 1) (Blk.by hb1 (Blk.new (w := wc) (cs := #[.int .i64 C]) (T := 2) _ rfl)) rfl (by simp) hsz (by omega) (by have := hb1.size; simpa using this))
    have hW1 : Below w.heap.size w w1 := below_on hb1 (below_al hW _)
    have m1 := cell_by' hW1 f1
    have m2 := cell_by' hW1 f2
    have t0 := cell_by' hW1 p0
    have t1 := cell_by' hW1 p1
    have kB1 := Blk.by hb1 (kB.past _)
    have kD1 := Blk.by hb1 (kD.past _)
    have qB1 := kB1.cell
    have qD1 := kD1.cell
    have hs1 := hb1.size
    simp only [World.size_alloc] at hs1
    clear hb1 kA kB kD hW g1 g2 g3 r0 r1 qB qD lD
    go_wp2
    go_quiet (fail)
    go_wp2_with (refine list_pushI (by rfl) _ _ (by rfl) w.heap.size (wc.heap.size + 1) (.slice (some ⟨wc.heap.size, 0, none⟩) 1 1) [C] [min A B, max A B] (by rfl) (HB1.out.by blwT) w1.heap.size 2 _ (by rfl) (by rfl) (by omega) (Blk.new _ rfl) (by simp [icells] <;> omega) (by omega) (by simp) ?_; intro a3 c3 w3 hB3 hw3; have HB3 := Lib.hid hB3; have hW3 : Below w.heap.size w w3 := hw3.below (by first | exact blwT) (by omega); clear hB3)
    all_goals
      go_ret
      exact ⟨_, rfl, HB3.out.own, hW3⟩
set_option maxRecDepth 100000 in
set_option maxHeartbeats 4000000 in
theorem l29Dev_m (x : Nl) (cn cd : List Int) (k : Nat) (d : Dv) (g p q : Nat) (v : Value) (sn sd : Value) (w : World) (h : NlV w v x) (hn : IntSl w sn cn) (hd : IntSl w sd cd) (hx : x.ds[k]? = some d) (hk : k < cd.length) (hk2 : ¬ d.kind = 2) (hpins : d.pins = [(g : Int), (p : Int), (q : Int)]) (hg : g < cn.length) (hp : p < cn.length) (hq : q < cn.length) (hl : x.ds.length ≤ 24) (hcn : cn.length ≤ 24) :
    Calls Tryz.prog 138 #[v, .agg #[sn, sd], .int .i64 k] w fun e w' => ∃ v', e = .returned v' ∧ OwnR w' w.heap.size w'.heap.size v' ([nmOf cd k, nmOf cn g] ++ dsgT (nmOf cn p) (nmOf cn q)) ∧ Below w.heap.size w w' := by
  obtain ⟨s1, s2, rfl, hD, hP⟩ := h
  obtain ⟨a2, c2, rfl⟩ := hP.sized
  have hkl : k < x.ds.length := (List.getElem?_eq_some_iff.1 hx).1
  rcases hD with ⟨_, _, _, h2⟩ | ⟨b, off, cap, rfl, h2, h3, h4⟩
  · rw [h2] at hkl; simp at hkl
  obtain ⟨sv, e1, e2, e3, e4, hS⟩ := h4 k d hx
  rw [hpins] at hS
  obtain ⟨pb, po, pc, rfl, p0, p1, p2, lp⟩ := hS.three
  obtain ⟨nb, no, nc, rfl, ln, cN⟩ := hn.nm (by omega)
  obtain ⟨db, eo, dc, rfl, ld, cD⟩ := hd.nm (by omega)
  have f1 := cN p hp
  have f2 := cN q hq
  have f3 := cD k hk
  have f0 := cN g hg
  obtain ⟨K, hK⟩ : ∃ K, d.kind = K := ⟨_, rfl⟩
  rw [hK] at e1 hk2
  have hz : (K == 2) = false := by rw [beq_eq_false_iff_ne]; exact hk2
  have i8 : (0 : Int) ≤ (g : Int) := by omega
  have i9 : (g : Int) < (cn.length : Int) := by omega
  have lb := lt_of_cell e1
  dsimp only at lb
  have i1 : (0 : Int) ≤ (k : Int) := by omega
  have i2 : (k : Int) < (x.ds.length : Int) := by omega
  have i3 : (k : Int) < (cd.length : Int) := by omega
  have i4 : (0 : Int) ≤ (p : Int) := by omega
  have i5 : (p : Int) < (cn.length : Int) := by omega
  have i6 : (0 : Int) ≤ (q : Int) := by omega
  have i7 : (q : Int) < (cn.length : Int) := by omega
  have HF := Lib.hid (fun w => l28First_any K d.wd d.len (some ⟨pb, po, none⟩) 1 pc (by omega) w)
  unfold dsgT
  generalize nmOf cn (g : Int) = G at *
  generalize nmOf cn (p : Int) = A at *
  generalize nmOf cn (q : Int) = B at *
  generalize nmOf cd (k : Int) = C at *
  generalize x.ds.length = n1 at *
  generalize x.ps.length = n2 at *
  generalize cn.length = n3 at *
  generalize cd.length = n4 at *
  clear cN cD hn hd hS h4 hP hx hpins h2 h3 hkl hk2
  go_enter Tryz.func138, Tryz.ntmps138
  go_upto_region 1 with fail
  go_cut [7] (fun s7 wx => s7 = .pointer (some ⟨w.heap.size + 1 + 1, 0, none⟩) ∧ Blk wx w.heap.size #[.int .i64 x.nets, .slice (some ⟨b, off, none⟩) n1 cap, .slice a2 n2 c2] 35 ∧ Blk wx (w.heap.size + 1) #[.slice (some ⟨nb, no, none⟩) n3 nc, .slice (some ⟨db, eo, none⟩) n4 dc] 81 ∧ Blk wx (w.heap.size + 1 + 1) #[.int .i64 K, .slice (some ⟨pb, po, none⟩) 3 pc, .int .i64 d.wd, .int .i64 d.len] 62 ∧ Below w.heap.size w wx)
  case first =>
    go_wp2_with fail
    go_meet
    exact ⟨rfl, blkT, blkT, blkT, blwT⟩
  case rest =>
    obtain ⟨rfl, kA, kB, kD, hW⟩ := hcut
    have g3 := cell_by' hW f3
    have lD := kD.lt
    have qB := kB.cell
    have hl2 : db < wc.heap.size := by omega
    obtain ⟨we, rfl⟩ : ∃ we, we = wc := ⟨_, rfl⟩
    go_upto_region 2 with fail
    go_cut [8] (fun s8 wx => ∃ e : Nat, s8 = .slice (some ⟨e, 0, none⟩) 1 1 ∧ (w.heap.size + 1 + 1 < e ∧ e < wx.heap.size) ∧ Hid (BldI wx e wx.heap.size (.slice (some ⟨e, 0, none⟩) 1 1) [C]) ∧ Blk wx (w.heap.size + 1) #[.slice (some ⟨nb, no, none⟩) n3 nc, .slice (some ⟨db, eo, none⟩) n4 dc] 81 ∧ Blk wx (w.heap.size + 1 + 1) #[.int .i64 K, .slice (some ⟨pb, po, none⟩) 3 pc, .int .i64 d.wd, .int .i64 d.len] 62 ∧ Below w.heap.size w wx)
    case first =>
      go_wp2_with fail
      go_meet
      exact ⟨we.heap.size, rfl, ⟨by omega, by simp⟩, Lib.hid (BldI.lit (zs := [C]) (Blk.new _ rfl) rfl (by simp) (Nat.le_refl _) (by simp) (Nat.le_refl _)), blkT, blkT, blwT⟩
    case rest =>
      clear kA kB kD hW g3 lD qB hl2
      obtain ⟨e, rfl, ⟨he1, he2⟩, HBI, kB, kD, hW⟩ := hcut
      obtain ⟨wd, rfl⟩ : ∃ wd, wd = wc := ⟨_, rfl⟩
      have g0 := cell_by' hW f0
      have r0 := cell_by' hW p0
      have qB := kB.cell
      have qD := kD.cell
      have lD := kD.lt
      have hsz := hW.size
      have hl1 : nb < wd.heap.size := by omega
      have hl3 : pb < wd.heap.size := by omega
      go_wp2_with fail
      go_region_held3 (fun w' => w'.cell? ⟨w.heap.size + 1, 0, none⟩ = some (.slice (some ⟨nb, no, none⟩) n3 nc) ∧ w'.cell? ⟨w.heap.size + 1 + 1, 1, none⟩ = some (.slice (some ⟨pb, po, none⟩) 3 pc) ∧ w'.cell? ⟨pb, po, none⟩ = some (.int .i64 g) ∧ w'.cell? ⟨nb, no + g, none⟩ = some (.int .i64 G))
        (first | exact ⟨kB.cell 0, kD.cell 1, r0, g0⟩ | exact ⟨kB3.cell 0, kD3.cell 1, cell_by' hW3 p0, cell_by' hW3 f0⟩ | go_keep)
        (first | (refine step_pushI (by rfl) _ _ (by rfl) e wd.heap.size (.slice (some ⟨e, 0, none⟩) 1 1) [C] [G] (by rfl) (HBI.out.by blwT) wd.heap.size 1 _ (by rfl) (by rfl) (by omega) (Blk.new _ rfl) (by rfl) (by omega) (by simp) ?_; intro a3 c3 w3 hB3 hw3; have HB3 := Lib.hid hB3; have kB3 : Blk w3 (w.heap.size + 1) #[.slice (some ⟨nb, no, none⟩) n3 nc, .slice (some ⟨db, eo, none⟩) n4 dc] 81 := hw3.blk blkT (by omega); have kD3 : Blk w3 (w.heap.size + 1 + 1) #[.int .i64 K, .slice (some ⟨pb, po, none⟩) 3 pc, .int .i64 d.wd, .int .i64 d.len] 62 := hw3.blk blkT (by omega); have hW3 : Below w.heap.size w w3 := hw3.below blwT (by omega); clear hB3))
      have qD3 := kD3.cell
      have lD3 := kD3.lt
      have hs3 := hw3.size
      clear qB qD lD kB kD g0 r0
      go_wp2_with fail
      refine (HF.out _).mono ?_
      rintro e1 w1 ⟨rfl, hb1⟩
      have HB1 := Lib.hid (HB3.out.by hb1)
      have hW1 : Below w.heap.size w w1 := below_on hb1 hW3
      have m1 := cell_by' hW1 f1
      have m2 := cell_by' hW1 f2
      have t1 := cell_by' hW1 p1
      have t2 := cell_by' hW1 p2
      have kB1 := Blk.by hb1 kB3
      have kD1 := Blk.by hb1 kD3
      have qB1 := kB1.cell
      have qD1 := kD1.cell
      have hs1 := hb1.size
      have h31 : e ≤ w3.heap.size := by simp at hs3; omega
      obtain ⟨hi, hhi⟩ : ∃ hi, w3.heap.size = hi := ⟨_, rfl⟩
      have HB2 := Lib.hid (hhi ▸ HB1.out)
      rw [hhi] at h31
      clear hb1 kB3 kD3 hW3 qD3 lD3 hs3 hs1 HB3 HB1 hw3 hhi hW
      go_wp2
      go_quiet (fail)
      go_wp2_with (refine list_pushI (by rfl) _ _ (by rfl) e hi (.slice a3 2 c3) [C, G] [min A B, max A B] (by rfl) (HB2.out.by blwT) w1.heap.size 2 _ (by rfl) (by rfl) (by omega) (Blk.new _ rfl) (by simp [icells] <;> omega) (by omega) (by simp) ?_; intro a4 c4 w4 hB4 hw4; have HB4 := Lib.hid hB4; have hW4 : Below w.heap.size w w4 := hw4.below (by first | exact blwT) (by omega); clear hB4)
      all_goals
        go_ret
        exact ⟨_, rfl, OwnR.wide' HB4.out.own (by omega) (Nat.le_refl _), hW4⟩
theorem l29Device_any (x : Nl) (c : List Int × List Int) (k : Nat) (d : Dv) (v u : Value) (w : World) (h : NlV w v x) (hc : CoV w u c) (hx : x.ds[k]? = some d) (hk : k < c.2.length) (hs : Shp d) (hp : ∀ p ∈ d.pins, 0 ≤ p ∧ p < c.1.length) (hl : x.ds.length ≤ 24) (hcn : c.1.length ≤ 24) :
    Calls Tryz.prog 138 #[v, u, .int .i64 k] w fun e w' => ∃ v', e = .returned v' ∧ OwnR w' w.heap.size w'.heap.size v' (dsgL d (nmOf c.2 k) c.1) ∧ Below w.heap.size w w' := by
  obtain ⟨s1, s2, rfl, hc1, hc2⟩ := hc
  rcases hs with ⟨k2, p, q, e⟩ | ⟨k2, g, p, q, e⟩
  · rw [dsgL_r k2 e]
    have h1 := hp p (by rw [e]; simp)
    have h2 := hp q (by rw [e]; simp)
    obtain ⟨p', rfl⟩ : ∃ p' : Nat, p = p' := ⟨p.toNat, by omega⟩
    obtain ⟨q', rfl⟩ : ∃ q' : Nat, q = q' := ⟨q.toNat, by omega⟩
    exact l29Dev_r x c.1 c.2 k d p' q' v s1 s2 w h hc1 hc2 hx hk k2 e (by omega) (by omega) hl hcn
  · have hk2 : ¬ d.kind = 2 := by omega
    rw [dsgL_m hk2 e]
    have h0 := hp g (by rw [e]; simp)
    have h1 := hp p (by rw [e]; simp)
    have h2 := hp q (by rw [e]; simp)
    obtain ⟨g', rfl⟩ : ∃ g' : Nat, g = g' := ⟨g.toNat, by omega⟩
    obtain ⟨p', rfl⟩ : ∃ p' : Nat, p = p' := ⟨p.toNat, by omega⟩
    obtain ⟨q', rfl⟩ : ∃ q' : Nat, q = q' := ⟨q.toNat, by omega⟩
    exact l29Dev_m x c.1 c.2 k d g' p' q' v s1 s2 w h hc1 hc2 hx hk hk2 e (by omega) (by omega) (by omega) hl hcn
/- The signature of a device: the program's. -/
set_option maxRecDepth 100000 in
set_option maxHeartbeats 8000000 in
theorem dsgDev_r (x : Nl) (cn cd : List Int) (k : Nat) (d : Dv) (p q : Nat) (v : Value) (sn sd : Value) (w : World) (h : NlV w v x) (hn : IntSl w sn cn) (hd : IntSl w sd cd) (hx : x.ds[k]? = some d) (hk : k < cd.length) (hk2 : d.kind = 2) (hpins : d.pins = [(p : Int), (q : Int)]) (hp : p < cn.length) (hq : q < cn.length) (hl : x.ds.length ≤ 24) (hcn : cn.length ≤ 24) :
    Calls Tryz.prog 155 #[v, .agg #[sn, sd], .int .i64 k] w fun e w' => ∃ v', e = .returned v' ∧ OwnR w' w.heap.size w'.heap.size v' ([nmOf cd k] ++ dsgT (nmOf cn p) (nmOf cn q)) ∧ Below w.heap.size w w' := by
  obtain ⟨s1, s2, rfl, hD, hP⟩ := h
  obtain ⟨a2, c2, rfl⟩ := hP.sized
  have hkl : k < x.ds.length := (List.getElem?_eq_some_iff.1 hx).1
  rcases hD with ⟨_, _, _, h2⟩ | ⟨b, off, cap, rfl, h2, h3, h4⟩
  · rw [h2] at hkl; simp at hkl
  obtain ⟨sv, e1, e2, e3, e4, hS⟩ := h4 k d hx
  rw [hpins] at hS
  obtain ⟨pb, po, pc, rfl, p0, p1, lp⟩ := hS.two
  obtain ⟨nb, no, nc, rfl, ln, cN⟩ := hn.nm (by omega)
  obtain ⟨db, eo, dc, rfl, ld, cD⟩ := hd.nm (by omega)
  have f1 := cN p hp
  have f2 := cN q hq
  have f3 := cD k hk
  rw [hk2] at e1
  have lb := lt_of_cell e1
  dsimp only at lb
  have i1 : (0 : Int) ≤ (k : Int) := by omega
  have i2 : (k : Int) < (x.ds.length : Int) := by omega
  have i3 : (k : Int) < (cd.length : Int) := by omega
  have i4 : (0 : Int) ≤ (p : Int) := by omega
  have i5 : (p : Int) < (cn.length : Int) := by omega
  have i6 : (0 : Int) ≤ (q : Int) := by omega
  have i7 : (q : Int) < (cn.length : Int) := by omega
  have HF := Lib.hid (fun w h => currentPins_any ⟨2, [(p : Int), (q : Int)], d.wd, d.len⟩ (.slice (some ⟨pb, po, none⟩) 2 pc) w h (.inl ⟨rfl, _, _, rfl⟩))
  simp only [curP, curQ] at HF
  have HS := Lib.hid hS
  unfold dsgT
  generalize nmOf cn (p : Int) = A at *
  generalize nmOf cn (q : Int) = B at *
  generalize nmOf cd (k : Int) = C at *
  generalize x.ds.length = n1 at *
  generalize x.ps.length = n2 at *
  generalize cn.length = n3 at *
  generalize cd.length = n4 at *
  clear cN cD hn hd hS h4 hP hx hpins h2 h3 hkl hk2
  go_enter Tryz.func155, Tryz.ntmps155
  go_upto_region 0 with fail
  go_cut [3, 4] (fun s3 s4 wx => s3 = .pointer (some ⟨w.heap.size, 0, none⟩) ∧ s4 = .pointer (some ⟨w.heap.size + 1, 0, none⟩) ∧ Blk wx w.heap.size #[.int .i64 x.nets, .slice (some ⟨b, off, none⟩) n1 cap, .slice a2 n2 c2] 35 ∧ Blk wx (w.heap.size + 1) #[.slice (some ⟨nb, no, none⟩) n3 nc, .slice (some ⟨db, eo, none⟩) n4 dc] 81 ∧ Below w.heap.size w wx)
  case first =>
    go_wp2_with fail
    go_meet
    exact ⟨rfl, rfl, blkT, blkT, blwT⟩
  case rest =>
    obtain ⟨rfl, rfl, kA, kB, hW⟩ := hcut
    obtain ⟨wb, rfl⟩ : ∃ wb, wb = wc := ⟨_, rfl⟩
    have g1 := cell_by' hW e1
    have g2 := cell_by' hW e2
    have g3 := cell_by' hW e3
    have g4 := cell_by' hW e4
    have g5 := cell_by' hW f3
    have qA := kA.cell 1
    have qB := kB.cell 1
    have lB := kB.lt
    have hl1 : b < wb.heap.size := by omega
    have hl2 : db < wb.heap.size := by omega
    have hl3 : w.heap.size < wb.heap.size := by omega
    have ha1 : b ≠ wb.heap.size ∧ b ≠ wb.heap.size + 1 := by omega
    have ha2 : db ≠ wb.heap.size ∧ db ≠ wb.heap.size + 1 := by omega
    have ha3 : w.heap.size ≠ wb.heap.size ∧ w.heap.size ≠ wb.heap.size + 1 := by omega
    have ha4 : w.heap.size + 1 ≠ wb.heap.size ∧ w.heap.size + 1 ≠ wb.heap.size + 1 := by omega
    go_upto_region 1 with fail
    go_cut [7, 8] (fun s7 s8 wx => ∃ D e : Nat, s7 = .pointer (some ⟨D, 0, none⟩) ∧ s8 = .slice (some ⟨e, 0, none⟩) 1 1 ∧ (w.heap.size + 1 < D ∧ w.heap.size + 1 < e ∧ e < wx.heap.size ∧ D ≠ e) ∧ Hid (BldI wx e (e + 1) (.slice (some ⟨e, 0, none⟩) 1 1) [C]) ∧ Blk wx (w.heap.size + 1) #[.slice (some ⟨nb, no, none⟩) n3 nc, .slice (some ⟨db, eo, none⟩) n4 dc] 81 ∧ Blk wx D #[.int .i64 2, .slice (some ⟨pb, po, none⟩) 2 pc, .int .i64 d.wd, .int .i64 d.len] 62 ∧ Below w.heap.size w wx)
    case first =>
      go_region_held3 (fun w' => w'.cell? ⟨w.heap.size, 1, none⟩ = some (.slice (some ⟨b, off, none⟩) n1 cap) ∧ w'.cell? ⟨w.heap.size + 1, 1, none⟩ = some (.slice (some ⟨db, eo, none⟩) n4 dc) ∧ w'.cell? ⟨b, off + k * 4, none⟩ = some (.int .i64 2) ∧ w'.cell? ⟨b, off + k * 4 + 1, none⟩ = some (.slice (some ⟨pb, po, none⟩) 2 pc) ∧ w'.cell? ⟨b, off + k * 4 + 2, none⟩ = some (.int .i64 d.wd) ∧ w'.cell? ⟨b, off + k * 4 + 3, none⟩ = some (.int .i64 d.len) ∧ w'.cell? ⟨db, eo + k, none⟩ = some (.int .i64 C))
        (first | exact ⟨qA, qB, g1, g2, g3, g4, g5⟩ | go_keep | (have hZ : Below wb.heap.size wb _ := blwT; exact ⟨cell_by' hZ qA, cell_by' hZ qB, cell_by' hZ g1, cell_by' hZ g2, cell_by' hZ g3, cell_by' hZ g4, cell_by' hZ g5⟩) | exact ⟨cell_by' blwT qA, cell_by' blwT qB, cell_by' blwT g1, cell_by' blwT g2, cell_by' blwT g3, cell_by' blwT g4, cell_by' blwT g5⟩)
        (fail)
      all_goals (go_wp2_with fail; go_meet)
      all_goals
        first
        | exact ⟨wb.heap.size + 1, wb.heap.size, rfl, rfl, ⟨by omega, by omega, (by simp <;> omega), by omega⟩, Lib.hid (BldI.lit (cs := #[.int .i64 C]) (zs := [C]) blkT rfl (by simp) (Nat.le_refl _) (by omega) (by simp <;> omega)), blkT, blkT, blwT⟩
        | exact ⟨wb.heap.size, wb.heap.size + 1, rfl, rfl, ⟨by omega, by omega, (by simp <;> omega), by omega⟩, Lib.hid (BldI.lit (cs := #[.int .i64 C]) (zs := [C]) blkT rfl (by simp) (Nat.le_refl _) (by omega) (by simp <;> omega)), blkT, blkT, blwT⟩
    case rest =>
      clear kA kB hW qA qB lB hl1 hl2 hl3 ha1 ha2 ha3 ha4 g1 g2 g3 g4 g5
      obtain ⟨D, e, rfl, rfl, ⟨hD, he1, he2, hDe⟩, HBI, kB, kD, hW⟩ := hcut
      obtain ⟨wd, rfl⟩ : ∃ wd, wd = wc := ⟨_, rfl⟩
      have qB := kB.cell
      have qD := kD.cell
      have lD := kD.lt
      have hsz := hW.size
      go_wp2_with fail
      refine (HF.out _ (HS.out.by blwT)).mono ?_
      rintro e1 w1 ⟨rfl, hb1⟩
      have HB1 := Lib.hid (HBI.out.by hb1)
      have kB1 := Blk.by hb1 kB
      have hW1 := below_on hb1 hW
      have m1 := cell_by' hW1 f1
      have m2 := cell_by' hW1 f2
      have qB1 := kB1.cell 0
      have lB1 := kB1.lt
      have hs1 := hb1.size
      have hl4 : nb < w1.heap.size := by omega
      clear hb1 kB hW qB qD lD
      go_upto_region 5 with fail
      go_region_held3 (fun w' => w'.cell? ⟨w.heap.size + 1, 0, none⟩ = some (.slice (some ⟨nb, no, none⟩) n3 nc) ∧ w'.cell? ⟨nb, no + p, none⟩ = some (.int .i64 A) ∧ w'.cell? ⟨nb, no + q, none⟩ = some (.int .i64 B))
        (first | exact ⟨qB1, m1, m2⟩ | go_keep | exact ⟨kB3.cell 0, cell_by' hW3 f1, cell_by' hW3 f2⟩)
        (first | (refine step_pushI (by rfl) _ _ (by rfl) e (e + 1) (.slice (some ⟨e, 0, none⟩) 1 1) [C] [min A B, max A B] (by rfl) (HB1.out.by blwT) w1.heap.size 2 _ (by rfl) (by rfl) (by omega) (Blk.new _ rfl) (by simp [icells] <;> omega) (by omega) (by simp) ?_; intro a3 c3 w3 hB3 hw3; have HB3 := Lib.hid hB3; have kB3 : Blk w3 (w.heap.size + 1) #[.slice (some ⟨nb, no, none⟩) n3 nc, .slice (some ⟨db, eo, none⟩) n4 dc] 81 := hw3.blk blkT (by omega); have hW3 : Below w.heap.size w w3 := hw3.below blwT (by omega); clear hB3))
      all_goals go_wp2
      all_goals
        go_ret
        exact ⟨_, rfl, OwnR.wide' HB3.out.own (by omega) (Nat.le_refl _), hW3⟩
/- The signature of a device: the program's, of a transistor. -/
set_option maxRecDepth 100000 in
set_option maxHeartbeats 8000000 in
theorem dsgDev_m (x : Nl) (cn cd : List Int) (k : Nat) (d : Dv) (g p q : Nat) (v : Value) (sn sd : Value) (w : World) (h : NlV w v x) (hn : IntSl w sn cn) (hd : IntSl w sd cd) (hx : x.ds[k]? = some d) (hk : k < cd.length) (hk2 : ¬ d.kind = 2) (hk01 : d.kind = 0 ∨ d.kind = 1) (hpins : d.pins = [(g : Int), (p : Int), (q : Int)]) (hg : g < cn.length) (hp : p < cn.length) (hq : q < cn.length) (hl : x.ds.length ≤ 24) (hcn : cn.length ≤ 24) :
    Calls Tryz.prog 155 #[v, .agg #[sn, sd], .int .i64 k] w fun e w' => ∃ v', e = .returned v' ∧ OwnR w' w.heap.size w'.heap.size v' ([nmOf cd k, nmOf cn g] ++ dsgT (nmOf cn p) (nmOf cn q)) ∧ Below w.heap.size w w' := by
  obtain ⟨s1, s2, rfl, hD, hP⟩ := h
  obtain ⟨a2, c2, rfl⟩ := hP.sized
  have hkl : k < x.ds.length := (List.getElem?_eq_some_iff.1 hx).1
  rcases hD with ⟨_, _, _, h2⟩ | ⟨b, off, cap, rfl, h2, h3, h4⟩
  · rw [h2] at hkl; simp at hkl
  obtain ⟨sv, e1, e2, e3, e4, hS⟩ := h4 k d hx
  rw [hpins] at hS
  obtain ⟨pb, po, pc, rfl, p0, p1, p2, lp⟩ := hS.three
  obtain ⟨nb, no, nc, rfl, ln, cN⟩ := hn.nm (by omega)
  obtain ⟨db, eo, dc, rfl, ld, cD⟩ := hd.nm (by omega)
  have f1 := cN p hp
  have f2 := cN q hq
  have f3 := cD k hk
  have f0 := cN g hg
  obtain ⟨K, hK⟩ : ∃ K, d.kind = K := ⟨_, rfl⟩
  rw [hK] at e1 hk2
  have hz : (K == 2) = false := by rw [beq_eq_false_iff_ne]; exact hk2
  have i8 : (0 : Int) ≤ (g : Int) := by omega
  have i9 : (g : Int) < (cn.length : Int) := by omega
  have lb := lt_of_cell e1
  dsimp only at lb
  have i1 : (0 : Int) ≤ (k : Int) := by omega
  have i2 : (k : Int) < (x.ds.length : Int) := by omega
  have i3 : (k : Int) < (cd.length : Int) := by omega
  have i4 : (0 : Int) ≤ (p : Int) := by omega
  have i5 : (p : Int) < (cn.length : Int) := by omega
  have i6 : (0 : Int) ≤ (q : Int) := by omega
  have i7 : (q : Int) < (cn.length : Int) := by omega
  have hs4 : Shp ⟨K, [(g : Int), (p : Int), (q : Int)], d.wd, d.len⟩ := .inr ⟨by rw [← hK]; exact hk01, _, _, _, rfl⟩
  have HF := Lib.hid (fun w h => currentPins_any ⟨K, [(g : Int), (p : Int), (q : Int)], d.wd, d.len⟩ (.slice (some ⟨pb, po, none⟩) 3 pc) w h hs4)
  simp only [curP, curQ] at HF
  have HS := Lib.hid hS
  clear hs4 hk01
  unfold dsgT
  generalize nmOf cn (g : Int) = G at *
  generalize nmOf cn (p : Int) = A at *
  generalize nmOf cn (q : Int) = B at *
  generalize nmOf cd (k : Int) = C at *
  generalize x.ds.length = n1 at *
  generalize x.ps.length = n2 at *
  generalize cn.length = n3 at *
  generalize cd.length = n4 at *
  clear cN cD hn hd hS h4 hP hx hpins h2 h3 hkl hk2
  go_enter Tryz.func155, Tryz.ntmps155
  go_upto_region 0 with fail
  go_cut [3, 4] (fun s3 s4 wx => s3 = .pointer (some ⟨w.heap.size, 0, none⟩) ∧ s4 = .pointer (some ⟨w.heap.size + 1, 0, none⟩) ∧ Blk wx w.heap.size #[.int .i64 x.nets, .slice (some ⟨b, off, none⟩) n1 cap, .slice a2 n2 c2] 35 ∧ Blk wx (w.heap.size + 1) #[.slice (some ⟨nb, no, none⟩) n3 nc, .slice (some ⟨db, eo, none⟩) n4 dc] 81 ∧ Below w.heap.size w wx)
  case first =>
    go_wp2_with fail
    go_meet
    exact ⟨rfl, rfl, blkT, blkT, blwT⟩
  case rest =>
    obtain ⟨rfl, rfl, kA, kB, hW⟩ := hcut
    obtain ⟨wb, rfl⟩ : ∃ wb, wb = wc := ⟨_, rfl⟩
    have g1 := cell_by' hW e1
    have g2 := cell_by' hW e2
    have g3 := cell_by' hW e3
    have g4 := cell_by' hW e4
    have g5 := cell_by' hW f3
    have qA := kA.cell 1
    have qB := kB.cell 1
    have lB := kB.lt
    have hl1 : b < wb.heap.size := by omega
    have hl2 : db < wb.heap.size := by omega
    have hl3 : w.heap.size < wb.heap.size := by omega
    have ha1 : b ≠ wb.heap.size ∧ b ≠ wb.heap.size + 1 := by omega
    have ha2 : db ≠ wb.heap.size ∧ db ≠ wb.heap.size + 1 := by omega
    have ha3 : w.heap.size ≠ wb.heap.size ∧ w.heap.size ≠ wb.heap.size + 1 := by omega
    have ha4 : w.heap.size + 1 ≠ wb.heap.size ∧ w.heap.size + 1 ≠ wb.heap.size + 1 := by omega
    go_upto_region 1 with fail
    go_cut [7, 8] (fun s7 s8 wx => ∃ D e : Nat, s7 = .pointer (some ⟨D, 0, none⟩) ∧ s8 = .slice (some ⟨e, 0, none⟩) 1 1 ∧ (w.heap.size + 1 < D ∧ w.heap.size + 1 < e ∧ e < wx.heap.size ∧ D ≠ e) ∧ Hid (BldI wx e (e + 1) (.slice (some ⟨e, 0, none⟩) 1 1) [C]) ∧ Blk wx (w.heap.size + 1) #[.slice (some ⟨nb, no, none⟩) n3 nc, .slice (some ⟨db, eo, none⟩) n4 dc] 81 ∧ Blk wx D #[.int .i64 K, .slice (some ⟨pb, po, none⟩) 3 pc, .int .i64 d.wd, .int .i64 d.len] 62 ∧ Below w.heap.size w wx)
    case first =>
      go_region_held3 (fun w' => w'.cell? ⟨w.heap.size, 1, none⟩ = some (.slice (some ⟨b, off, none⟩) n1 cap) ∧ w'.cell? ⟨w.heap.size + 1, 1, none⟩ = some (.slice (some ⟨db, eo, none⟩) n4 dc) ∧ w'.cell? ⟨b, off + k * 4, none⟩ = some (.int .i64 K) ∧ w'.cell? ⟨b, off + k * 4 + 1, none⟩ = some (.slice (some ⟨pb, po, none⟩) 3 pc) ∧ w'.cell? ⟨b, off + k * 4 + 2, none⟩ = some (.int .i64 d.wd) ∧ w'.cell? ⟨b, off + k * 4 + 3, none⟩ = some (.int .i64 d.len) ∧ w'.cell? ⟨db, eo + k, none⟩ = some (.int .i64 C))
        (first | exact ⟨qA, qB, g1, g2, g3, g4, g5⟩ | go_keep | (have hZ : Below wb.heap.size wb _ := blwT; exact ⟨cell_by' hZ qA, cell_by' hZ qB, cell_by' hZ g1, cell_by' hZ g2, cell_by' hZ g3, cell_by' hZ g4, cell_by' hZ g5⟩) | exact ⟨cell_by' blwT qA, cell_by' blwT qB, cell_by' blwT g1, cell_by' blwT g2, cell_by' blwT g3, cell_by' blwT g4, cell_by' blwT g5⟩)
        (fail)
      all_goals (go_wp2_with fail; go_meet)
      all_goals
        first
        | exact ⟨wb.heap.size + 1, wb.heap.size, rfl, rfl, ⟨by omega, by omega, (by simp <;> omega), by omega⟩, Lib.hid (BldI.lit (cs := #[.int .i64 C]) (zs := [C]) blkT rfl (by simp) (Nat.le_refl _) (by omega) (by simp <;> omega)), blkT, blkT, blwT⟩
        | exact ⟨wb.heap.size, wb.heap.size + 1, rfl, rfl, ⟨by omega, by omega, (by simp <;> omega), by omega⟩, Lib.hid (BldI.lit (cs := #[.int .i64 C]) (zs := [C]) blkT rfl (by simp) (Nat.le_refl _) (by omega) (by simp <;> omega)), blkT, blkT, blwT⟩
    case rest =>
      clear kA kB hW qA qB lB hl1 hl2 hl3 ha1 ha2 ha3 ha4 g1 g2 g3 g4 g5
      obtain ⟨D, e, rfl, rfl, ⟨hD, he1, he2, hDe⟩, HBI, kB, kD, hW⟩ := hcut
      obtain ⟨wd, rfl⟩ : ∃ wd, wd = wc := ⟨_, rfl⟩
      have qB := kB.cell
      have qD := kD.cell
      have lD := kD.lt
      have hsz := hW.size
      have g0 := cell_by' hW f0
      have r0 := cell_by' hW p0
      have hl1 : nb < wd.heap.size := by omega
      have hl3 : pb < wd.heap.size := by omega
      go_wp2_with fail
      go_region_held3 (fun w' => w'.cell? ⟨w.heap.size + 1, 0, none⟩ = some (.slice (some ⟨nb, no, none⟩) n3 nc) ∧ w'.cell? ⟨D, 1, none⟩ = some (.slice (some ⟨pb, po, none⟩) 3 pc) ∧ w'.cell? ⟨pb, po, none⟩ = some (.int .i64 g) ∧ w'.cell? ⟨nb, no + g, none⟩ = some (.int .i64 G))
        (first | exact ⟨kB.cell 0, kD.cell 1, r0, g0⟩ | exact ⟨kB3.cell 0, kD3.cell 1, cell_by' hW3 p0, cell_by' hW3 f0⟩ | go_keep)
        (first | (refine step_pushI (by rfl) _ _ (by rfl) e (e + 1) (.slice (some ⟨e, 0, none⟩) 1 1) [C] [G] (by rfl) (HBI.out.by blwT) wd.heap.size 1 _ (by rfl) (by rfl) (by omega) (Blk.new _ rfl) (by rfl) (by omega) (by simp) ?_; intro a3 c3 w3 hB3 hw3; have HB3 := Lib.hid hB3; have kB3 : Blk w3 (w.heap.size + 1) #[.slice (some ⟨nb, no, none⟩) n3 nc, .slice (some ⟨db, eo, none⟩) n4 dc] 81 := hw3.blk blkT (by omega); have kD3 : Blk w3 D #[.int .i64 K, .slice (some ⟨pb, po, none⟩) 3 pc, .int .i64 d.wd, .int .i64 d.len] 62 := hw3.blk blkT (by omega); have hW3 : Below w.heap.size w w3 := hw3.below blwT (by omega); clear hB3))
      have qD3 := kD3.cell
      have lD3 := kD3.lt
      have hs3 := hw3.size
      simp only [World.size_alloc, World.size_drew] at hs3
      have hs4 : e ≤ w3.heap.size := by omega
      obtain ⟨hi, hhi⟩ : ∃ hi, w3.heap.size = hi := ⟨_, rfl⟩
      have HB4 := Lib.hid (hhi ▸ HB3.out)
      have hs5 : e ≤ hi := by omega
      have hs6 := hW3.size
      have HHI := Lib.hid hhi
      clear qB qD lD kB kD g0 r0 hs3 hhi HB3 hW HBI hw3
      go_wp2_with fail
      refine (HF.out _ (HS.out.by blwT)).mono ?_
      rintro e1 w1 ⟨rfl, hb1⟩
      have HB1 := Lib.hid (HB4.out.by hb1)
      have kB1 := Blk.by hb1 kB3
      have hW1 := below_on hb1 hW3
      have m1 := cell_by' hW1 f1
      have m2 := cell_by' hW1 f2
      have qB1 := kB1.cell 0
      have lB1 := kB1.lt
      have hs1 := hb1.size
      have hl4 : nb < w1.heap.size := by omega
      clear hb1 kB3 kD3 hW3 qD3 lD3
      go_upto_region 5 with fail
      go_region_held3 (fun w' => w'.cell? ⟨w.heap.size + 1, 0, none⟩ = some (.slice (some ⟨nb, no, none⟩) n3 nc) ∧ w'.cell? ⟨nb, no + p, none⟩ = some (.int .i64 A) ∧ w'.cell? ⟨nb, no + q, none⟩ = some (.int .i64 B))
        (first | exact ⟨qB1, m1, m2⟩ | go_keep | exact ⟨kB4.cell 0, cell_by' hW4 f1, cell_by' hW4 f2⟩)
        (first | (refine step_pushI (by rfl) _ _ (by rfl) e hi (.slice a3 2 c3) [C, G] [min A B, max A B] (by rfl) (HB1.out.by blwT) w1.heap.size 2 _ (by rfl) (by rfl) (by omega) (Blk.new _ rfl) (by simp [icells] <;> omega) (by omega) (by simp) ?_; intro a4 c4 w4 hB4 hw4; have HB5 := Lib.hid hB4; have kB4 : Blk w4 (w.heap.size + 1) #[.slice (some ⟨nb, no, none⟩) n3 nc, .slice (some ⟨db, eo, none⟩) n4 dc] 81 := hw4.blk blkT (by omega); have hW4 : Below w.heap.size w w4 := hw4.below blwT (by omega); clear hB4))
      all_goals go_wp2
      all_goals
        go_ret
        exact ⟨_, rfl, OwnR.wide' HB5.out.own (by omega) (Nat.le_refl _), hW4⟩
/- Both DeviceSignature. -/
theorem dsgDevice_any (x : Nl) (c : List Int × List Int) (k : Nat) (d : Dv) (v u : Value) (w : World) (h : NlV w v x) (hc : CoV w u c) (hx : x.ds[k]? = some d) (hk : k < c.2.length) (hs : Shp d) (hp : ∀ p ∈ d.pins, 0 ≤ p ∧ p < c.1.length) (hl : x.ds.length ≤ 24) (hcn : c.1.length ≤ 24) :
    Calls Tryz.prog 155 #[v, u, .int .i64 k] w fun e w' => ∃ v', e = .returned v' ∧ OwnR w' w.heap.size w'.heap.size v' (dsgL d (nmOf c.2 k) c.1) ∧ Below w.heap.size w w' := by
  obtain ⟨s1, s2, rfl, hc1, hc2⟩ := hc
  rcases hs with ⟨k2, p, q, e⟩ | ⟨k2, g, p, q, e⟩
  · rw [dsgL_r k2 e]
    have h1 := hp p (by rw [e]; simp)
    have h2 := hp q (by rw [e]; simp)
    obtain ⟨p', rfl⟩ : ∃ p' : Nat, p = p' := ⟨p.toNat, by omega⟩
    obtain ⟨q', rfl⟩ : ∃ q' : Nat, q = q' := ⟨q.toNat, by omega⟩
    exact dsgDev_r x c.1 c.2 k d p' q' v s1 s2 w h hc1 hc2 hx hk k2 e (by omega) (by omega) hl hcn
  · have hk2 : ¬ d.kind = 2 := by omega
    rw [dsgL_m hk2 e]
    have h0 := hp g (by rw [e]; simp)
    have h1 := hp p (by rw [e]; simp)
    have h2 := hp q (by rw [e]; simp)
    obtain ⟨g', rfl⟩ : ∃ g' : Nat, g = g' := ⟨g.toNat, by omega⟩
    obtain ⟨p', rfl⟩ : ∃ p' : Nat, p = p' := ⟨p.toNat, by omega⟩
    obtain ⟨q', rfl⟩ : ∃ q' : Nat, q = q' := ⟨q.toNat, by omega⟩
    exact dsgDev_m x c.1 c.2 k d g' p' q' v s1 s2 w h hc1 hc2 hx hk hk2 k2 e (by omega) (by omega) (by omega) hl hcn
set_option maxRecDepth 100000 in
set_option maxHeartbeats 1000000 in
theorem slicesEqual_any (s1 s2 : Value) (xs ys : List Int) (w : World) (h : IntSl w s1 xs) (h' : IntSl w s2 ys) :
    Calls Tryz.prog 104 #[s1, s2] w fun e w' => e = .returned (.bool (decide (xs = ys))) ∧ ∃ n, w' = w.drewN n := by
  have hl1 := h.le
  have hl2 := h'.le
  have HX := Lib.hid h
  have HY := Lib.hid h'
  obtain ⟨a, c, rfl⟩ := h.len
  obtain ⟨a', c', rfl⟩ := h'.len
  clear h h'
  by_cases hl : xs.length = ys.length
  · have HL := Lib.hid hl
    have HEQ := Lib.hid (show (∀ j : Nat, j < xs.length → xs[j]? = ys[j]?) → xs = ys from fun h => List.ext_getElem? (fun i => by
      by_cases hi : i < xs.length
      · exact h i hi
      · rw [List.getElem?_eq_none (by omega), List.getElem?_eq_none (by omega)]))
    have e1 : ((xs.length : Int) != (ys.length : Int)) = false := by simp; omega
    obtain ⟨r, hr⟩ : ∃ r, decide (xs = ys) = r := ⟨_, rfl⟩
    rw [hr]
    have HR := Lib.hid hr
    clear hl hr
    go_enter Tryz.func104, Tryz.ntmps104
    go_wp2
    go_loopw [13] (fun i wr => ∃ k n : Nat, k ≤ xs.length ∧ i = .int .i64 k ∧ Hid (∀ j : Nat, j < k → xs[j]? = ys[j]?) ∧ wr = w.drewN n) (fun i _ => xs.length - (intOf i).toNat)
    case atStart => exact ⟨0, 0, Nat.zero_le _, rfl, Lib.hid (by intro j h; omega), rfl⟩
    case round =>
      obtain ⟨k, n, hk, rfl, HI, rfl⟩ := hrel
      by_cases hlt : k < xs.length
      · obtain ⟨x, hx⟩ : ∃ x, xs[k]? = some x := ⟨xs[k], List.getElem?_eq_getElem hlt⟩
        obtain ⟨y, hy⟩ : ∃ y, ys[k]? = some y := ⟨ys[k]'(by rw [← HL.out]; exact hlt), List.getElem?_eq_getElem _⟩
        rcases HX.out with ⟨_, _, _, h2⟩ | ⟨b, off, cap, he, _, _, hc⟩
        · rw [h2] at hx; simp at hx
        obtain ⟨rfl, rfl⟩ : a = some ⟨b, off, none⟩ ∧ c = cap := by simpa using he
        rcases HY.out with ⟨_, _, _, h2⟩ | ⟨b', off', cap', he', _, _, hc'⟩
        · rw [h2] at hy; simp at hy
        obtain ⟨rfl, rfl⟩ : a' = some ⟨b', off', none⟩ ∧ c' = cap' := by simpa using he'
        have c1 := hc k x hx
        have c2 := hc' k y hy
        have i1 : (0 : Int) ≤ (k : Int) := by omega
        have i2 : (k : Int) < (xs.length : Int) := by omega
        have i3 : (k : Int) < (ys.length : Int) := by have := HL.out; omega
        have HXK := Lib.hid hx
        have HYK := Lib.hid hy
        clear hx hy hc hc' he he'
        by_cases hq : x = y
        · subst hq
          have e2 : (x != x) = false := by simp
          go_wp2
          go_quiet (fail)
          go_wp2
          refine ⟨⟨k + 1, _, by omega, by go_num, Lib.hid (fun j hj => ?_), rfl⟩, by simp [intOf]; omega⟩
          by_cases ej : j = k
          · subst ej; rw [HXK.out, HYK.out]
          · exact HI.out j (by omega)
        · have e2 : (x != y) = true := by simpa using hq
          have hr : r = false := by rw [← HR.out]; simp; intro e; have := HXK.out; rw [e, HYK.out] at this; exact hq (Option.some.inj this).symm
          have HRF := Lib.hid hr
          clear hq hr
          go_wp2
          go_quiet (fail)
          go_wp2
          go_ret
          exact ⟨ret_bool HRF.out.symm, _, by first | rfl | exact World.drewN_drewN _ _ _⟩
      · obtain rfl : k = xs.length := by omega
        have hr : r = true := by rw [← HR.out]; simpa using HEQ.out (fun j hj => HI.out j hj)
        have HRT := Lib.hid hr
        clear hr
        go_wp2
        go_ret
        exact ⟨ret_bool HRT.out.symm, n, rfl⟩
  · have e1 : ((xs.length : Int) != (ys.length : Int)) = true := by simp; omega
    have hne : decide (xs = ys) = false := by simp; intro e; exact hl (by rw [e])
    rw [hne]
    clear hl hne
    go_enter Tryz.func104, Tryz.ntmps104
    go_wp2
    go_ret
    exact ⟨rfl, 0, rfl⟩
set_option maxRecDepth 100000 in
theorem ranks1_any (s1 s2 : Value) (xs ys : List Int) (w : World) (h : IntSl w s1 xs) (h' : IntSl w s2 ys) :
    Calls Tryz.prog 170 #[s1, s2] w fun e w' => e = .returned (.int .i64 (lcmp xs ys)) ∧ ∃ n, w' = w.drewN n := by
  have HC := Lib.hid (slicesCompare_any s1 s2 xs ys w h h')
  obtain ⟨a, c, rfl⟩ := h.len
  obtain ⟨a', c', rfl⟩ := h'.len
  generalize lcmp xs ys = r at *
  clear h h'
  go_enter Tryz.func170, Tryz.ntmps170
  go_wp2_with fail
  refine HC.out.mono ?_
  rintro e w1 ⟨rfl, n, rfl⟩
  go_wp2
  go_ret
  exact ⟨rfl, n, rfl⟩
set_option maxRecDepth 100000 in
theorem ranks2_any (s1 s2 : Value) (xs ys : List Int) (w : World) (h : IntSl w s1 xs) (h' : IntSl w s2 ys) :
    Calls Tryz.prog 172 #[s1, s2] w fun e w' => e = .returned (.bool (decide (xs = ys))) ∧ ∃ n, w' = w.drewN n := by
  have HC := Lib.hid (slicesEqual_any s1 s2 xs ys w h h')
  obtain ⟨a, c, rfl⟩ := h.len
  obtain ⟨a', c', rfl⟩ := h'.len
  generalize decide (xs = ys) = r at *
  clear h h'
  go_enter Tryz.func172, Tryz.ntmps172
  go_wp2_with fail
  refine HC.out.mono ?_
  rintro e w1 ⟨rfl, n, rfl⟩
  go_wp2
  go_ret
  exact ⟨rfl, n, rfl⟩
set_option maxRecDepth 100000 in
theorem ranks3_any (s1 s2 : Value) (xs ys : List Int) (B : Nat) (w : World) (h : IntSl w s1 xs) (h' : IntSl w s2 ys) (hc : w.cell? ⟨B, 0, none⟩ = some s2) :
    Calls Tryz.prog 174 #[s1, .pointer (some ⟨B, 0, none⟩)] w fun e w' => e = .returned (.bool (decide (xs = ys))) ∧ Below w.heap.size w w' := by
  have HC := Lib.hid (slicesEqual_any s1 s2 xs ys w h h')
  have hB := lt_of_cell hc
  dsimp only at hB
  obtain ⟨a, c, rfl⟩ := h.len
  obtain ⟨a', c', rfl⟩ := h'.len
  generalize decide (xs = ys) = r at *
  clear h h'
  go_enter Tryz.func174, Tryz.ntmps174
  go_wp2_with fail
  refine HC.out.mono ?_
  rintro e w1 ⟨rfl, n, rfl⟩
  go_wp2
  go_ret
  exact ⟨rfl, blwT⟩
set_option maxRecDepth 100000 in
set_option maxHeartbeats 1000000 in
theorem indexFuncL_any (g : Nat) (lb : Array Value) (eg : ∀ args w, (callFunc g args).run Tryz.prog w = .ok (.enter g args) w) (p : List Int → Bool) (s0 : Value) (xs : List (List Int)) (w : World) (h : LlSl w s0 xs)
    (hp : ∀ (W : World) (x : List Int) (sv : Value), Below w.heap.size w W → x ∈ xs → IntSl W sv x → Calls Tryz.prog g (#[sv] ++ lb) W fun e w' => e = .returned (.bool (p x)) ∧ Below W.heap.size W w') :
    Calls Tryz.prog 173 #[s0, .func (.func g) #[] lb] w fun e w' => e = .returned (.int .i64 (fidx p xs)) ∧ Below w.heap.size w w' := by
  have HH := Lib.hid (fun k x => @fidx_hit (List Int) p xs k x)
  have HM := Lib.hid (@fidx_miss (List Int) p xs)
  have HP := Lib.hid hp
  clear hp
  rcases h with ⟨a, c, rfl, rfl⟩ | ⟨b, off, cap, rfl, h2, h3, h4⟩
  · have hr := Lib.hid (HM.out (by simp))
    generalize fidx p [] = r at *
    go_enter Tryz.func173, Tryz.ntmps173
    go_wp2
    go_loopw [8] (fun i wr => i = .int .i64 0 ∧ wr = w) (fun _ _ => 0)
    case atStart => exact ⟨rfl, rfl⟩
    case round =>
      obtain ⟨rfl, rfl⟩ := hrel
      go_wp2
      go_ret
      exact ⟨ret_i64 hr.out.symm, Below.refl _ _⟩
  · generalize fidx p xs = r at *
    unfold maxLen at h3
    go_enter Tryz.func173, Tryz.ntmps173
    go_wp2
    go_loopw [5, 8] (fun _ i wr => ∃ k : Nat, k ≤ xs.length ∧ i = .int .i64 k ∧ Hid (∀ j y, j < k → xs[j]? = some y → p y = false) ∧ Below w.heap.size w wr) (fun _ i _ => xs.length - (intOf i).toNat)
    case atStart => exact ⟨0, Nat.zero_le _, rfl, Lib.hid (by intro j y hj; omega), Below.refl _ _⟩
    case round =>
      obtain ⟨k, hk, rfl, HI, hb⟩ := hrel
      by_cases hlt : k < xs.length
      · obtain ⟨x, hx⟩ : ∃ x, xs[k]? = some x := ⟨xs[k], List.getElem?_eq_getElem hlt⟩
        have hmem : x ∈ xs := List.mem_of_getElem? hx
        obtain ⟨sv, c1', hS'⟩ := h4 k x hx
        have c1 := cell_by' hb c1'
        have hS := hS'.by hb
        have hcall := HP.out wr x sv hb hmem hS
        have HX := Lib.hid hx
        have i1 : (0 : Int) ≤ (k : Int) := by omega
        have i2 : (k : Int) < (xs.length : Int) := by omega
        obtain ⟨a1, cc1, rfl⟩ := hS.len
        clear h4 hx c1' hS' hS
        cases hq : p x with
        | true =>
          rw [hq] at hcall
          have HQ := Lib.hid hq
          have HC := Lib.hid hcall
          clear hq hcall
          go_wp2_with (go_at_fn g; refine HC.out.mono ?_; rintro e w1 ⟨rfl, hb1⟩)
          go_ret
          exact ⟨ret_i64 (HH.out k x HX.out HQ.out HI.out).symm, below_on hb1 hb⟩
        | false =>
          rw [hq] at hcall
          have HQ := Lib.hid hq
          have HC := Lib.hid hcall
          clear hq hcall
          go_wp2_with (go_at_fn g; refine HC.out.mono ?_; rintro e w1 ⟨rfl, hb1⟩)
          exact ⟨⟨k + 1, by omega, by go_num, Lib.hid (fun j y hj hy => by
            by_cases e : j = k
            · subst e; obtain rfl : y = x := Option.some.inj (hy.symm.trans HX.out); exact HQ.out
            · exact HI.out j y (by omega) hy), below_on hb1 hb⟩, by simp [intOf]; omega⟩
      · obtain rfl : k = xs.length := by omega
        have hr := Lib.hid (HM.out (fun j y hy => HI.out j y (List.getElem?_eq_some_iff.1 hy).1 hy))
        go_wp2
        go_ret
        exact ⟨ret_i64 hr.out.symm, hb⟩
def noneTo (ls : List (List Int)) (k j : Nat) : Bool := (List.range j).all fun i => decide (lcmp (ls.getD i []) (ls.getD k []) ≠ 0)
theorem noneTo_step (ls : List (List Int)) (k j : Nat) : noneTo ls k (j + 1) = (noneTo ls k j && decide (lcmp (ls.getD j []) (ls.getD k []) ≠ 0)) := by
  simp [noneTo, List.range_succ, List.all_append]
theorem noneTo_first (ls : List (List Int)) (k : Nat) : noneTo ls k k = firstAt ls k := rfl
set_option maxRecDepth 100000 in
set_option maxHeartbeats 2000000 in
theorem specRanks_any (ls : List (List Int)) (sv : Value) (w : World) (h : LlSl w sv ls) (hn : ls.length ≤ 1000) :
    Calls Tryz.prog 136 #[sv] w fun e w' => ∃ v, e = .returned v ∧ OwnR w' w.heap.size w'.heap.size v (rankS ls) ∧ Below w.heap.size w w' := by
  have HL := Lib.hid h
  have HLL := Lib.hid (fun s1 s2 xs ys w h h' => l27List_any s1 s2 xs ys w h h')
  have HTK := Lib.hid (fun k x (h : ls[k]? = some x) => show (rankS ls).take (k + 1) = (rankS ls).take k ++ [(rankOf ls x : Int)] from take_snoc_of (rankS ls) k _ (by simp [rankS, h]))
  have HLR := Lib.hid (length_rankS ls)
  have HRS := Lib.hid (fun x k => rankTo_step ls x k)
  have HRE := Lib.hid (fun x k => rankTo_le ls x k)
  have HNS := Lib.hid (fun k j => noneTo_step ls k j)
  obtain ⟨a, c, rfl⟩ := h.sized
  clear h
  go_enter Tryz.func136, Tryz.ntmps136
  go_wp2
  go_loopw [3, 4] (fun v i wr => ∃ (k hi : Nat), k ≤ ls.length ∧ i = .int .i64 k ∧ Hid (BldI wr w.heap.size hi v ((rankS ls).take k)) ∧ w.heap.size ≤ hi ∧ Below w.heap.size w wr) (fun _ i _ => ls.length - (intOf i).toNat)
  case atStart =>
    refine ⟨0, w.heap.size + 1, Nat.zero_le _, rfl, Lib.hid ?_, by omega, blwT⟩
    have hB : Blk (w.alloc (.cells #[] 2)) w.heap.size #[] 2 := Blk.new _ rfl
    exact BldI.lit (zs := []) hB rfl (by simp) (Nat.le_refl _) (by omega) (by simp)
  case round =>
    obtain ⟨k, hi, hk, rfl, HB, hhi, hb⟩ := hrel
    have hml : ((rankS ls).take k).length = k := by rw [List.length_take, HLR.out]; omega
    obtain ⟨av, cv, rfl⟩ := HB.out.sized
    rw [hml] at HB ⊢
    have HML := Lib.hid hml
    have hbs := hb.size
    clear hml
    by_cases hlt : k < ls.length
    · obtain ⟨x, hx⟩ : ∃ x, ls[k]? = some x := ⟨ls[k], List.getElem?_eq_getElem hlt⟩
      rcases HL.out with ⟨_, _, _, e2⟩ | ⟨b, off, cap, he, _, _, hcc⟩
      · rw [e2] at hlt; simp at hlt
      obtain ⟨rfl, rfl⟩ : a = some ⟨b, off, none⟩ ∧ c = cap := by simpa using he
      have HCC := Lib.hid hcc
      obtain ⟨sx, cx, hSx⟩ := hcc k x hx
      have HSX := Lib.hid hSx
      have HCX := Lib.hid cx
      have HX := Lib.hid hx
      have HTX := Lib.hid (HTK.out k x hx)
      obtain ⟨ax, dx, rfl⟩ := hSx.len
      have HRx := Lib.hid (HRS.out x)
      have HREx := Lib.hid (HRE.out x)
      obtain ⟨wo, hwo⟩ : ∃ y : World, y = wr := ⟨_, rfl⟩
      subst hwo
      have i1 : (0 : Int) ≤ (k : Int) := by omega
      have i2 : (k : Int) < (ls.length : Int) := by omega
      clear hx he hcc hSx cx
      go_wp2
      -- over the lists: which are less
      go_loopw [5, 6, 7, 8] (fun r j f l wr => ∃ m n : Nat, m ≤ ls.length ∧ j = .int .i64 m ∧ r = .int .i64 (rankTo ls x m : Nat) ∧ wr = wo.drewN n) (fun _ j _ _ _ => ls.length - (intOf j).toNat)
      case atStart => exact ⟨0, 0, Nat.zero_le _, rfl, rfl, rfl⟩
      case round =>
        obtain ⟨m, n, hm, rfl, rfl, rfl⟩ := hrel
        by_cases hlm : m < ls.length
        · obtain ⟨y, hy⟩ : ∃ y, ls[m]? = some y := ⟨ls[m], List.getElem?_eq_getElem hlm⟩
          obtain ⟨sy, cy, hSy⟩ := HCC.out m y hy
          have hyd : ls.getD m [] = y := by rw [List.getD_eq_getElem?_getD, hy]; rfl
          have HYD := Lib.hid hyd
          have HSY := Lib.hid hSy
          have HCY := Lib.hid cy
          obtain ⟨ay, dy, rfl⟩ := hSy.len
          have m1 : (0 : Int) ≤ (m : Int) := by omega
          have m2 : (m : Int) < (ls.length : Int) := by omega
          have hrm := HREx.out m
          clear hy hSy cy hyd
          obtain ⟨wp, hwp⟩ : ∃ wp, wp = wo.drewN n := ⟨_, rfl⟩
          rw [← hwp]
          have hbp : Below wo.heap.size wo wp := by rw [hwp]; exact below_of_drewN wo n
          have HWP := Lib.hid hwp
          clear hwp
          go_wp2
          go_loopw [7, 8] (fun f l wr => ∃ q n : Nat, q ≤ m ∧ l = .int .i64 q ∧ f = .bool (noneTo ls m q) ∧ wr = wp.drewN n) (fun _ l _ => m - (intOf l).toNat)
          case atStart => exact ⟨0, 0, Nat.zero_le _, rfl, rfl, rfl⟩
          case round =>
            obtain ⟨q, n', hq, rfl, rfl, rfl⟩ := hrel
            by_cases hlq : q < m
            · obtain ⟨z, hz⟩ : ∃ z, ls[q]? = some z := ⟨ls[q], List.getElem?_eq_getElem (by omega)⟩
              obtain ⟨sz, cz, hSz⟩ := HCC.out q z hz
              have hzd : ls.getD q [] = z := by rw [List.getD_eq_getElem?_getD, hz]; rfl
              have HST := Lib.hid (HNS.out m q)
              rw [hzd, HYD.out] at HST
              have e1 := cell_by' hbp (cell_by' hb cz)
              have e2 := cell_by' hbp (cell_by' hb HCY.out)
              have HSZ := Lib.hid hSz
              obtain ⟨az, dz, rfl⟩ := hSz.len
              have q1 : (0 : Int) ≤ (q : Int) := by omega
              have q2 : (q : Int) < (ls.length : Int) := by omega
              have q3 : (q : Int) < (m : Int) := by omega
              have hbq : Below w.heap.size w (wp.drewN n').drew := (below_drewN (hb.trans (hbp.mono (by omega))) n').drew
              have HCALL := Lib.hid (HLL.out _ _ z y (wp.drewN n').drew (HSZ.out.by hbq) (HSY.out.by hbq))
              clear hz hSz cz hzd hbq
              cases hf : noneTo ls m q with
              | false =>
                rw [hf] at HST
                have HF := Lib.hid (show noneTo ls m (q + 1) = false by rw [HST.out]; rfl)
                clear hf
                go_wp2_with fail
                go_quiet (fail)
                go_wp2
                exact ⟨⟨q + 1, _, by omega, by go_num, by rw [HF.out], by first | rfl | exact World.drewN_drewN _ _ _⟩, by simp [intOf]; omega⟩
              | true =>
                rw [hf] at HST
                clear hf
                by_cases hz0 : lcmp z y = 0
                · have HF := Lib.hid (show noneTo ls m (q + 1) = false by rw [HST.out]; simp [hz0])
                  have e3 : (lcmp z y != 0) = false := by simpa using hz0
                  clear hz0
                  generalize lcmp z y = L at *
                  go_wp2_with fail
                  go_region_held3 (fun w' => w'.cell? ⟨b, off + q, none⟩ = some (.slice az z.length dz) ∧ w'.cell? ⟨b, off + m, none⟩ = some (.slice ay y.length dy))
                    (exact ⟨e1, e2⟩)
                    (first | (go_at_call 108; refine HCALL.out.mono ?_; rintro e w1 ⟨rfl, n1, rfl⟩))
                  go_wp2
                  exact ⟨⟨q + 1, _, by omega, by go_num, by rw [HF.out], by first | rfl | exact World.drewN_drewN _ _ _⟩, by simp [intOf]; omega⟩
                · have HF := Lib.hid (show noneTo ls m (q + 1) = true by rw [HST.out]; simp [hz0])
                  have e3 : (lcmp z y != 0) = true := by simpa using hz0
                  clear hz0
                  generalize lcmp z y = L at *
                  go_wp2_with fail
                  go_region_held3 (fun w' => w'.cell? ⟨b, off + q, none⟩ = some (.slice az z.length dz) ∧ w'.cell? ⟨b, off + m, none⟩ = some (.slice ay y.length dy))
                    (exact ⟨e1, e2⟩)
                    (first | (go_at_call 108; refine HCALL.out.mono ?_; rintro e w1 ⟨rfl, n1, rfl⟩))
                  go_wp2
                  exact ⟨⟨q + 1, _, by omega, by go_num, by rw [HF.out], by first | rfl | exact World.drewN_drewN _ _ _⟩, by simp [intOf]; omega⟩
            · obtain rfl : q = m := by omega
              have e1 := cell_by' hbp (cell_by' hb HCX.out)
              have e2 := cell_by' hbp (cell_by' hb HCY.out)
              have hst := HRx.out q
              rw [HYD.out, ← noneTo_first] at hst
              have HST := Lib.hid hst
              have hbq : Below w.heap.size w (wp.drewN n').drew := (below_drewN (hb.trans (hbp.mono (by omega))) n').drew
              have HCALL := Lib.hid (HLL.out _ _ y x (wp.drewN n').drew (HSY.out.by hbq) (HSX.out.by hbq))
              have hne : ¬ (q : Int) < (q : Int) := by omega
              clear hst hbq
              cases hf : noneTo ls q q with
              | false =>
                rw [hf] at HST
                have HF := Lib.hid (show rankTo ls x (q + 1) = rankTo ls x q by rw [HST.out]; simp)
                clear hf
                go_wp2_with fail
                go_quiet (fail)
                go_wp2
                exact ⟨⟨q + 1, _, by omega, by go_num, by rw [HF.out], by rw [HWP.out]; first | rfl | exact World.drewN_drewN _ _ _⟩, by simp [intOf]; omega⟩
              | true =>
                rw [hf] at HST
                clear hf
                by_cases hz0 : lcmp y x < 0
                · have HF := Lib.hid (show rankTo ls x (q + 1) = rankTo ls x q + 1 by rw [HST.out]; simp [hz0])
                  generalize lcmp y x = L at *
                  generalize rankTo ls x q = rk at *
                  go_wp2_with fail
                  go_region_held3 (fun w' => w'.cell? ⟨b, off + k, none⟩ = some (.slice ax x.length dx) ∧ w'.cell? ⟨b, off + q, none⟩ = some (.slice ay y.length dy))
                    (exact ⟨e1, e2⟩)
                    (first | (go_at_call 108; refine HCALL.out.mono ?_; rintro e w1 ⟨rfl, n1, rfl⟩))
                  go_wp2
                  exact ⟨⟨q + 1, _, by omega, by go_num, by rw [HF.out]; go_num, by rw [HWP.out]; first | rfl | exact World.drewN_drewN _ _ _⟩, by simp [intOf]; omega⟩
                · have HF := Lib.hid (show rankTo ls x (q + 1) = rankTo ls x q by rw [HST.out]; simp [hz0])
                  generalize lcmp y x = L at *
                  generalize rankTo ls x q = rk at *
                  go_wp2_with fail
                  go_region_held3 (fun w' => w'.cell? ⟨b, off + k, none⟩ = some (.slice ax x.length dx) ∧ w'.cell? ⟨b, off + q, none⟩ = some (.slice ay y.length dy))
                    (exact ⟨e1, e2⟩)
                    (first | (go_at_call 108; refine HCALL.out.mono ?_; rintro e w1 ⟨rfl, n1, rfl⟩))
                  go_wp2
                  exact ⟨⟨q + 1, _, by omega, by go_num, by rw [HF.out], by rw [HWP.out]; first | rfl | exact World.drewN_drewN _ _ _⟩, by simp [intOf]; omega⟩
        · obtain rfl : m = ls.length := by omega
          have HRK := Lib.hid (show rankTo ls x ls.length = rankOf ls x from rfl)
          have hrk := HREx.out ls.length
          rw [HRK.out] at hrk ⊢
          generalize rankOf ls x = rk at *
          have HB4 := Lib.hid (HB.out.by (below_of_drewN wo n))
          go_wp2_with (refine list_pushI (by rfl) _ _ (by rfl) w.heap.size hi _ _ [(rk : Int)] (by rfl) (HB4.out.by blwT) wo.heap.size 1 #[.int .i64 (rk : Int)] (by rfl) (by rfl) (by omega) (Blk.new _ rfl) (by rfl) hhi (by rw [HML.out]; omega) ?_; intro a2 c2' w5 hB5 hw5; have HB5 := Lib.hid hB5; rw [HML.out]; clear hB5)
          have hsz := hw5.size
          simp only [World.size_alloc, size_drewN] at hsz
          refine ⟨⟨k + 1, w5.heap.size, by omega, by go_num, Lib.hid ?_, by omega, hw5.below (below_al (below_drewN hb n) _) (by omega)⟩, by simp [intOf]; omega⟩
          rw [HTX.out]
          have := HB5.out
          rw [HML.out] at this
          exact this
    · obtain rfl : k = ls.length := by omega
      have hBD := HB.out
      rw [List.take_of_length_le (by rw [HLR.out]; exact Nat.le_refl _)] at hBD
      have HBD := Lib.hid hBD
      clear hBD HB
      go_wp2
      go_ret
      exact ⟨_, rfl, OwnR.wide' HBD.out.own (Nat.le_refl _) HBD.out.1, hb⟩
def BldL (w : World) (lo hi : Nat) (v : Value) (ls : List (List Int)) : Prop := hi ≤ w.heap.size ∧ ∃ (vs : List Value) (f : Nat → Nat), w.ownsRow lo 27 1 v ls.length vs ∧ vs.length = ls.length ∧ (∀ g, v.ownBlock = some g → lo ≤ g ∧ g < hi) ∧
  (∀ i x s, ls[i]? = some x → vs[i]? = some s → OwnR w (f i) (f i + 1) s x ∧ (lo ≤ f i ∧ f i < hi) ∧ v.ownBlock ≠ some (f i))
section
variable {w w' : World} {lo hi : Nat} {v : Value} {ls : List (List Int)}
theorem BldL.by (hb : Below w.heap.size w w') (h : BldL w lo hi v ls) : BldL w' lo hi v ls := by
  obtain ⟨hs, vs, f, h1, h2, h3, h4⟩ := h
  refine ⟨Nat.le_trans hs hb.size, vs, f, row_same h1 (fun g hg => hb.block g (by have := h3 g hg; omega)), h2, h3, fun i x s hx hp => ?_⟩
  obtain ⟨a, b, c⟩ := h4 i x s hx hp
  exact ⟨OwnR.by hb a, b, c⟩
theorem BldL.sized (h : BldL w lo hi v ls) : ∃ a c, v = .slice a ls.length c := by
  obtain ⟨_, vs, f, ⟨_, h1⟩, _⟩ := h
  rcases h1 with ⟨h1, h2⟩ | ⟨g, cap, cur, e1, _⟩
  · exact ⟨none, 0, by rw [h1, h2]⟩
  · exact ⟨_, _, e1⟩
theorem BldL.lit {g : Nat} (h : Blk w g #[] 27) (hlo : lo ≤ g) (hhi : g < hi) (hs : hi ≤ w.heap.size) : BldL w lo hi (.slice (some ⟨g, 0, none⟩) 0 0) [] :=
  ⟨hs, [], fun _ => 0, ⟨rfl, .inr ⟨g, 0, #[], rfl, hlo, h, Nat.le_refl _, by unfold maxLen; omega, rfl, rfl⟩⟩, rfl, (fun g' hg' => by
    have e : g = g' := by injection hg'
    omega), by intro i x s h; simp at h⟩
theorem BldL.ll (h : BldL w lo hi v ls) : LlSl w v ls ∧ ((∃ c, v = .slice none 0 c) ∨ ∃ b c, v = .slice (some ⟨b, 0, none⟩) ls.length c) := by
  obtain ⟨hs, vs, f, ⟨hlen, h1⟩, h2, h3, h4⟩ := h
  rcases h1 with ⟨h1, hn⟩ | ⟨g, cap, cur, e1, e2, e3, e4, e5, e6, e7⟩
  · exact ⟨.inl ⟨_, _, h1, List.eq_nil_of_length_eq_zero hn⟩, .inl ⟨_, h1⟩⟩
  · refine ⟨.inr ⟨g, 0, cap, e1, e4, e5, fun i x hx => ?_⟩, .inr ⟨g, cap, e1⟩⟩
    have hi' : i < ls.length := (List.getElem?_eq_some_iff.1 hx).1
    obtain ⟨s, hsv⟩ : ∃ s, vs[i]? = some s := ⟨vs[i]'(by omega), List.getElem?_eq_getElem (by omega)⟩
    have h6 := hsv
    rw [← e7, List.getElem?_take_of_lt (by omega)] at h6
    have hB : Blk w g cur 27 := e3
    refine ⟨s, ?_, (h4 i x s hx hsv).1.sl⟩
    rw [Nat.zero_add, hB.cell]
    simpa using h6
end
theorem OwnR.pick {w : World} {lo hi : Nat} {s : Value} {xs : List Int} (h : OwnR w lo hi s xs) (hl : lo < hi) : ∃ f, (lo ≤ f ∧ f < hi) ∧ OwnR w f (f + 1) s xs := by
  rcases h with h | ⟨g, cap, cs, h1, h2, h2', h3⟩
  · exact ⟨lo, ⟨Nat.le_refl _, hl⟩, .inl h⟩
  · exact ⟨g, ⟨h2, h2'⟩, .inr ⟨g, cap, cs, h1, Nat.le_refl _, Nat.lt_succ_self _, h3⟩⟩
theorem step_pushL {ops : Array Oper} {o : Oper} {a : Act} {w : World} {K : Act → World → Prop} {Q : Exit → Act → World → Prop} {E : Prop} (hgd : o.guard = none) (s x : Operand)
    (ho : o.op = .call { callee := .builtin .append, args := #[s, x], argTypes := #[87, 87] })
    (lo hi : Nat) (v : Value) (ls : List (List Int)) (hs : a.eval s = v) (hB : BldL w lo hi v ls) (nb : Nat) (d : List Int) (pv : Value) (fb : Nat) (hx : a.eval x = .slice (some ⟨nb, 0, none⟩) 1 1)
    (hnb : Blk w nb #[pv] 27) (hpv : OwnR w fb (fb + 1) pv d) (hlo : lo ≤ hi) (hhi : hi ≤ fb) (hfb : fb < w.heap.size) (hn : ls.length ≤ 1000)
    (hK : ∀ a' c' w', BldL w' lo w'.heap.size (.slice a' (ls.length + 1) c') (ls ++ [d]) → Within lo hi w w' → K (a.put o.dst (.slice a' (ls.length + 1) c')) w') :
    if Region.wanted o (yielded ops a.tmps) = true then Oper.wp Tryz.prog o a w K Q else E := by
  obtain ⟨i0, hi0, hz0, hz1, hz2⟩ := info_parts infoL
  obtain ⟨hsz, vs, f, h1, h2, h3, h4⟩ := hB
  have hone : pv.oneCell' = true := hpv.sl.one
  refine step_append_lies w hgd s x 87 ho lo 27 i0 _ 1 24 Tryz.underlying87 hi0 hz0 hz1 hz2 rfl (by decide) v ls.length _ hs h1 ⟨nb, 0, none⟩ 1 1 [pv] hx rfl (World.news_of_block (cs := #[pv]) hnb) ?_ (by decide) (by unfold maxLen; omega) (by omega) (by omega) w.heap.size rfl ?_
  · intro u hu
    simp at hu
    subst hu
    exact hone
  · intro g cap w' hrow hgrow hg hgl
    have hW : Within lo hi w w' := grown_within hgrow h3
    refine hK (some ⟨g, 0, none⟩) cap w' ⟨Nat.le_refl _, vs ++ [pv], fun i => if i = ls.length then fb else f i, ?_, by simp [h2], ?_, ?_⟩ hW
    · rw [List.length_append, List.length_singleton]; exact hrow
    · intro g' hg'
      have : g = g' := by injection hg'
      subst this
      rcases hg with h | h
      · have := h3 g h; omega
      · omega
    · intro i y pv' hy hp'
      by_cases hi' : i < ls.length
      · rw [List.getElem?_append_left hi'] at hy
        rw [List.getElem?_append_left (by omega)] at hp'
        obtain ⟨a1, b1, c1⟩ := h4 i y pv' hy hp'
        simp only [if_neg (show i ≠ ls.length by omega)]
        have hsep : ∀ g0, v.ownBlock = some g0 → g0 ≠ f i := fun g0 e1 e2 => c1 (by rw [e1, e2])
        refine ⟨?_, by have := hgrow.size; omega, ?_⟩
        · cases hv : v.ownBlock with
          | none => exact OwnR.by ⟨hgrow.os, hgrow.tape, hgrow.output, hgrow.size, fun k hk => hgrow.block k hk (by rw [hv]; simp)⟩ a1
          | some g0 => exact OwnR.past (grown_within (lo := g0) (hi := g0 + 1) hgrow (fun g1 e => by rw [hv] at e; cases e; omega)) a1 (by have := hsep g0 hv; omega)
        · intro e
          have : g = f i := by injection e
          rcases hg with h | h
          · exact hsep g h this
          · omega
      · have hil : i < (ls ++ [d]).length := (List.getElem?_eq_some_iff.1 hy).1
        simp at hil
        obtain rfl : i = ls.length := by omega
        rw [List.getElem?_append_right (Nat.le_refl _)] at hy
        rw [List.getElem?_append_right (by omega)] at hp'
        simp [h2] at hy hp'
        subst hy hp'
        simp only [if_true]
        refine ⟨OwnR.past hW hpv (by omega), by have := hgrow.size; omega, ?_⟩
        intro e
        have : g = fb := by injection e
        rcases hg with h | h
        · have := h3 g h; omega
        · omega
theorem list_pushL {ops : Array Oper} {rest : List Oper} {o : Oper} {a : Act} {w : World} {Q : Exit → Act → World → Prop} (hgd : o.guard = none) (s x : Operand)
    (ho : o.op = .call { callee := .builtin .append, args := #[s, x], argTypes := #[87, 87] })
    (lo hi : Nat) (v : Value) (ls : List (List Int)) (hs : a.eval s = v) (hB : BldL w lo hi v ls) (nb : Nat) (d : List Int) (pv : Value) (fb : Nat) (hx : a.eval x = .slice (some ⟨nb, 0, none⟩) 1 1)
    (hnb : Blk w nb #[pv] 27) (hpv : OwnR w fb (fb + 1) pv d) (hlo : lo ≤ hi) (hhi : hi ≤ fb) (hfb : fb < w.heap.size) (hn : ls.length ≤ 1000)
    (hK : ∀ a' c' w', BldL w' lo w'.heap.size (.slice a' (ls.length + 1) c') (ls ++ [d]) → Within lo hi w w' → wpList Tryz.prog ops Q rest (a.put o.dst (.slice a' (ls.length + 1) c')) w') : wpList Tryz.prog ops Q (o :: rest) a w :=
  wpList_plain hgd fun K hk => by
    have h := step_pushL (ops := ops) (K := K) (Q := Q) (E := False) hgd s x ho lo hi v ls hs hB nb d pv fb hx hnb hpv hlo hhi hfb hn (fun a' c' w' h1 h2 => hk _ _ (hK a' c' w' h1 h2))
    rwa [if_pos (by simp [Region.wanted, hgd])] at h
def portTo (ps : List Pt) (net : Int) (k : Nat) : List Int := ((List.range k).filter fun i : Nat => match ps[i]? with | some p => decide (p.net = net) | none => false).map fun i : Nat => (i : Int)
theorem portTo_step (ps : List Pt) (net : Int) (k : Nat) (p : Pt) (h : ps[k]? = some p) : portTo ps net (k + 1) = portTo ps net k ++ (if p.net = net then [(k : Int)] else []) := by
  unfold portTo
  rw [List.range_succ, List.filter_append, List.map_append]
  congr 1
  by_cases e : p.net = net <;> simp [h, e]
theorem portTo_len (ps : List Pt) (net : Int) (k : Nat) : (portTo ps net k).length ≤ k := by
  unfold portTo
  rw [List.length_map]
  have := List.length_filter_le (fun i : Nat => match ps[i]? with | some p => decide (p.net = net) | none => false) (List.range k)
  simpa using this
def netL (x : Nl) (n : Nat) : List (List Int) := (List.range n).map fun j : Nat => portTo x.ps (j : Int) x.ps.length
def devL (ds : List Dv) : List (List Int) := ds.map fun d => [d.kind, d.wd, d.len]
def iniS (x : Nl) : List Int × List Int := (rankS (netL x x.nets.toNat), rankS (devL x.ds))
theorem netL_step (x : Nl) (n : Nat) : netL x (n + 1) = netL x n ++ [portTo x.ps (n : Int) x.ps.length] := by simp [netL, List.range_succ]
theorem length_netL (x : Nl) (n : Nat) : (netL x n).length = n := by simp [netL]
theorem length_devL (ds : List Dv) : (devL ds).length = ds.length := by simp [devL]
end Go.Proofs.YtifbffianbgeaaaGreat
