/- The signature of a net: the plain part. -/
import Derived.Test.YtpaiiaajbojmnaaGreatBldg
import Derived.Test.YtpaiiaajbojmnaaGreatOrdB
import Derived.Test.YtpaiiaajbojmnaaGreatRank0
import Derived.Test.YtpaiiaajbojmnaaGreatCopies
import Derived.Test.YtpaiiaajbojmnaaGreatIntB
import Derived.Test.YtpaiiaajbojmnaaGreatNls
import Derived.Test.YtpaiiaajbojmnaaGreatPairC
import Derived.BigRegion
namespace Go.Proofs.YtpaiiaajbojmnaaGreat
open Go.RowKit
set_option linter.unusedVariables false
set_option linter.unusedSimpArgs false

def roleOf (kind : Int) (k : Nat) : Int := if kind = 2 then 2 else min (k : Int) 1
def pHit (ci kind : Int) (pins : List Int) (net color role : Int) (k : Nat) : Bool := decide (ci = color) && (decide (pins.getD k 0 = net) && decide (roleOf kind k = role))
def pTo (ci kind : Int) (pins : List Int) (net color role : Int) (k : Nat) : List Int := (List.range k).flatMap fun j => if pHit ci kind pins net color role j = true then [color, role] else []
def dAt (ds : List Dv) (j : Nat) : Dv := ds.getD j ⟨0, [], 0, 0⟩
def dTo (ds : List Dv) (cs : List Int) (net color role : Int) (i : Nat) : List Int := (List.range i).flatMap fun j : Nat => pTo (nmOf cs (j : Int)) (dAt ds j).kind (dAt ds j).pins net color role (dAt ds j).pins.length
def rTo (ds : List Dv) (cs : List Int) (net color : Int) (r : Nat) : List Int := (List.range r).flatMap fun j : Nat => dTo ds cs net color (j : Int) ds.length
def cTo (ds : List Dv) (cs : List Int) (net : Int) (c : Nat) : List Int := (List.range c).flatMap fun j : Nat => rTo ds cs net (j : Int) 3
/-- The signature of a net. -/
def netL' (x : Nl) (c : List Int × List Int) (net : Int) : List Int := [nmOf c.1 net] ++ cTo x.ds c.2 net 24
theorem flat_succ {α : Type} (f : Nat → List α) (k : Nat) : (List.range (k + 1)).flatMap f = (List.range k).flatMap f ++ f k := by
  rw [List.range_succ, List.flatMap_append]; simp
theorem flat_len {α : Type} (f : Nat → List α) (b n : Nat) (h : ∀ j, j < n → (f j).length ≤ b) : ((List.range n).flatMap f).length ≤ n * b := by
  induction n with
  | zero => simp
  | succ n ih =>
    rw [flat_succ, List.length_append, Nat.succ_mul]
    have := ih (fun j hj => h j (by omega))
    have := h n (by omega)
    omega
theorem pTo_succ (ci kind : Int) (pins : List Int) (net color role : Int) (k : Nat) : pTo ci kind pins net color role (k + 1) = pTo ci kind pins net color role k ++ (if pHit ci kind pins net color role k = true then [color, role] else []) := flat_succ _ k
theorem dTo_succ (ds : List Dv) (cs : List Int) (net color role : Int) (i : Nat) (d : Dv) (h : ds[i]? = some d) : dTo ds cs net color role (i + 1) = dTo ds cs net color role i ++ pTo (nmOf cs (i : Int)) d.kind d.pins net color role d.pins.length := by
  unfold dTo
  rw [flat_succ]
  simp [dAt, List.getD_eq_getElem?_getD, h]
theorem rTo_succ (ds : List Dv) (cs : List Int) (net color : Int) (r : Nat) : rTo ds cs net color (r + 1) = rTo ds cs net color r ++ dTo ds cs net color (r : Int) ds.length := flat_succ _ r
theorem cTo_succ (ds : List Dv) (cs : List Int) (net : Int) (c : Nat) : cTo ds cs net (c + 1) = cTo ds cs net c ++ rTo ds cs net (c : Int) 3 := flat_succ _ c
theorem pTo_len (ci kind : Int) (pins : List Int) (net color role : Int) (k : Nat) : (pTo ci kind pins net color role k).length ≤ k * 2 := flat_len _ 2 k (fun j _ => by split <;> simp)
theorem dTo_len {ds : List Dv} (hp : ∀ d ∈ ds, d.pins.length ≤ 3) (cs : List Int) (net color role : Int) (i : Nat) : (dTo ds cs net color role i).length ≤ i * 6 := flat_len _ 6 i (fun (j : Nat) _ => by
  have h := pTo_len (nmOf cs (j : Int)) (dAt ds j).kind (dAt ds j).pins net color role (dAt ds j).pins.length
  have h3 : (dAt ds j).pins.length ≤ 3 := by
    unfold dAt
    rw [List.getD_eq_getElem?_getD]
    cases e : ds[j]? with
    | none => simp
    | some d => exact hp d (List.mem_of_getElem? e)
  omega)
theorem rTo_len {ds : List Dv} (hp : ∀ d ∈ ds, d.pins.length ≤ 3) (cs : List Int) (net color : Int) (r : Nat) : (rTo ds cs net color r).length ≤ r * (ds.length * 6) := flat_len _ _ r (fun j _ => dTo_len hp _ _ _ _ _)
theorem cTo_len {ds : List Dv} (hp : ∀ d ∈ ds, d.pins.length ≤ 3) (cs : List Int) (net : Int) (c : Nat) : (cTo ds cs net c).length ≤ c * (3 * (ds.length * 6)) := flat_len _ _ c (fun j _ => rTo_len hp _ _ _ _)
end Go.Proofs.YtpaiiaajbojmnaaGreat

/- The signature of a net: the reference's grouped pairs are the sorted pairs. -/
namespace Go.Proofs.YtpaiiaajbojmnaaGreat
open Go.RowKit
set_option linter.unusedVariables false
set_option linter.unusedSimpArgs false

/-- What one device adds to a net: its first k pins. -/
def occD (ci kind : Int) (pins : List Int) (net : Int) (k : Nat) : List (List Int) := (List.range k).flatMap fun j => if pins.getD j 0 = net then [[ci, roleOf kind j]] else []
/-- What the first i devices add to a net. -/
def occs (ds : List Dv) (cs : List Int) (net : Int) (i : Nat) : List (List Int) := (List.range i).flatMap fun j : Nat => occD (nmOf cs (j : Int)) (dAt ds j).kind (dAt ds j).pins net (dAt ds j).pins.length
theorem occD_succ (ci kind : Int) (pins : List Int) (net : Int) (k : Nat) : occD ci kind pins net (k + 1) = occD ci kind pins net k ++ (if pins.getD k 0 = net then [[ci, roleOf kind k]] else []) := flat_succ _ k
theorem occs_succ (ds : List Dv) (cs : List Int) (net : Int) (i : Nat) (d : Dv) (h : ds[i]? = some d) : occs ds cs net (i + 1) = occs ds cs net i ++ occD (nmOf cs (i : Int)) d.kind d.pins net d.pins.length := by
  unfold occs
  rw [flat_succ]
  simp [dAt, List.getD_eq_getElem?_getD, h]
theorem occD_len (ci kind : Int) (pins : List Int) (net : Int) (k : Nat) : (occD ci kind pins net k).length ≤ k * 1 := flat_len _ 1 k (fun j _ => by split <;> simp)
theorem occs_len {ds : List Dv} (hp : ∀ d ∈ ds, d.pins.length ≤ 3) (cs : List Int) (net : Int) (i : Nat) : (occs ds cs net i).length ≤ i * 3 := flat_len _ 3 i (fun (j : Nat) _ => by
  have h := occD_len (nmOf cs (j : Int)) (dAt ds j).kind (dAt ds j).pins net (dAt ds j).pins.length
  have h3 : (dAt ds j).pins.length ≤ 3 := by
    unfold dAt
    rw [List.getD_eq_getElem?_getD]
    cases e : ds[j]? with
    | none => simp
    | some d => exact hp d (List.mem_of_getElem? e)
  omega)
theorem flat_filter (f : Nat → List (List Int)) (p : List Int → Bool) (n : Nat) : (((List.range n).flatMap f).filter p).flatten = (List.range n).flatMap fun j => ((f j).filter p).flatten := by
  induction n with
  | zero => simp
  | succ n ih => rw [flat_succ, flat_succ, List.filter_append, List.flatten_append, ih]
theorem flat_flat (f : Nat → List (List Int)) (n : Nat) : ((List.range n).flatMap f).flatten = (List.range n).flatMap fun j => (f j).flatten := by
  induction n with
  | zero => simp
  | succ n ih => rw [flat_succ, flat_succ, List.flatten_append, ih]
theorem pTo_occ (ci kind : Int) (pins : List Int) (net q r : Int) (k : Nat) : pTo ci kind pins net q r k = ((occD ci kind pins net k).filter fun o => decide (o = [q, r])).flatten := by
  unfold pTo occD
  rw [flat_filter]
  congr 1
  funext j
  unfold pHit
  by_cases h1 : pins.getD j 0 = net
  · by_cases h2 : ci = q <;> by_cases h3 : roleOf kind j = r <;> simp only [h1, h2, h3, if_true, decide_true, decide_false, Bool.and_true, Bool.and_false, Bool.false_eq_true, if_false, List.filter_cons, List.filter_nil] <;> simp [h2, h3]
  · simp only [h1, decide_false, Bool.false_and, Bool.and_false, Bool.false_eq_true, if_false, List.filter_nil, List.flatten_nil]
theorem dTo_occ (ds : List Dv) (cs : List Int) (net q r : Int) (i : Nat) : dTo ds cs net q r i = ((occs ds cs net i).filter fun o => decide (o = [q, r])).flatten := by
  unfold dTo occs
  rw [flat_filter]
  congr 1
  funext j
  exact pTo_occ _ _ _ _ _ _ _
/-- The pairs, grouped. -/
def grp (O : List (List Int)) (a b : Nat) : List (List Int) := (List.range a).flatMap fun q : Nat => (List.range b).flatMap fun r : Nat => O.filter fun o => decide (o = [(q : Int), (r : Int)])
theorem cTo_occ (ds : List Dv) (cs : List Int) (net : Int) (c : Nat) : cTo ds cs net c = (grp (occs ds cs net ds.length) c 3).flatten := by
  unfold cTo grp rTo
  rw [flat_flat]
  congr 1
  funext q
  rw [flat_flat]
  congr 1
  funext r
  exact dTo_occ _ _ _ _ _ _
theorem count_flat (f : Nat → List (List Int)) (a : List Int) (k c : Nat) (h1 : ∀ j, j ≠ k → (f j).count a = 0) (h2 : (f k).count a = c) (n : Nat) : ((List.range n).flatMap f).count a = if k < n then c else 0 := by
  induction n with
  | zero => simp
  | succ n ih =>
    rw [flat_succ, List.count_append, ih]
    by_cases e : n = k
    · subst e; simp [h2]
    · rw [h1 n e]
      by_cases h : k < n
      · rw [if_pos h, if_pos (by omega)]; simp
      · rw [if_neg h, if_neg (by omega)]
theorem mem_grp {O : List (List Int)} {a b : Nat} {o : List Int} (h : o ∈ grp O a b) : o ∈ O := by
  simp only [grp, List.mem_flatMap, List.mem_filter] at h
  obtain ⟨_, _, _, _, h, _⟩ := h
  exact h
theorem grp_perm (O : List (List Int)) (a b : Nat) (h : ∀ o ∈ O, ∃ q r : Nat, q < a ∧ r < b ∧ o = [(q : Int), (r : Int)]) : (grp O a b).Perm O := by
  rw [List.perm_iff_count]
  intro o
  by_cases ho : o ∈ O
  · obtain ⟨q, r, hq, hr, rfl⟩ := h o ho
    have hc : ∀ q' r' : Nat, (O.filter fun o => decide (o = [(q' : Int), (r' : Int)])).count [(q : Int), (r : Int)] = if q' = q ∧ r' = r then O.count [(q : Int), (r : Int)] else 0 := by
      intro q' r'
      by_cases e : q' = q ∧ r' = r
      · rw [if_pos e, e.1, e.2]
        exact List.count_filter (by simp)
      · rw [if_neg e]
        apply List.count_eq_zero.2
        intro hm
        have := (List.mem_filter.1 hm).2
        simp at this
        omega
    unfold grp
    rw [count_flat _ _ q (O.count [(q : Int), (r : Int)]) (fun j hj => ?_) ?_, if_pos hq]
    · rw [count_flat _ _ r (O.count [(q : Int), (r : Int)]) (fun i hi => by rw [hc, if_neg (by omega)]) (by rw [hc, if_pos ⟨rfl, rfl⟩]), if_pos hr]
    · rw [count_flat _ _ r 0 (fun i hi => by rw [hc, if_neg (by omega)]) (by rw [hc, if_neg (by omega)])]
      simp
  · rw [List.count_eq_zero.2 ho, List.count_eq_zero.2 (fun hm => ho (mem_grp hm))]
theorem lcmp_pair (a b c d : Int) (h : a < c ∨ a = c ∧ b ≤ d) : lcmp [a, b] [c, d] ≤ 0 := by
  rw [lcmp_cc, lcmp_cc, lcmp_nn]
  rcases sgn_cases a c with ⟨_, e⟩ | ⟨_, e⟩ | ⟨_, e⟩ <;> rcases sgn_cases b d with ⟨_, e'⟩ | ⟨_, e'⟩ | ⟨_, e'⟩ <;> rw [e, e'] <;> simp <;> omega
theorem grp_sorted (O : List (List Int)) (a b : Nat) : (grp O a b).Pairwise fun x y => lcmp x y ≤ 0 := by
  unfold grp
  rw [List.pairwise_flatMap]
  refine ⟨fun q _ => ?_, List.pairwise_lt_range.imp ?_⟩
  · rw [List.pairwise_flatMap]
    refine ⟨fun r _ => ?_, List.pairwise_lt_range.imp ?_⟩
    · refine List.pairwise_of_forall_mem_list fun x hx y hy => ?_
      have h1 := (List.mem_filter.1 hx).2
      have h2 := (List.mem_filter.1 hy).2
      simp at h1 h2
      subst h1
      subst h2
      rw [lcmp_self]
      simp
    · intro r r' hr x hx y hy
      have h1 := (List.mem_filter.1 hx).2
      have h2 := (List.mem_filter.1 hy).2
      simp at h1 h2
      subst h1
      subst h2
      exact lcmp_pair _ _ _ _ (.inr ⟨rfl, by omega⟩)
  · intro q q' hq x hx y hy
    simp only [List.mem_flatMap, List.mem_filter, decide_eq_true_eq] at hx hy
    obtain ⟨_, _, _, rfl⟩ := hx
    obtain ⟨_, _, _, rfl⟩ := hy
    exact lcmp_pair _ _ _ _ (.inl (by omega))
/-- The law: any sorted permutation of the pairs gives the signature. -/
theorem netL_sorted (x : Nl) (c : List Int × List Int) (net : Int) (S : List (List Int)) (hS : S.Perm (occs x.ds c.2 net x.ds.length)) (hP : S.Pairwise fun a b => lcmp a b ≤ 0)
    (hO : ∀ o ∈ occs x.ds c.2 net x.ds.length, ∃ q r : Nat, q < 24 ∧ r < 3 ∧ o = [(q : Int), (r : Int)]) : [nmOf c.1 net] ++ S.flatten = netL' x c net := by
  have e : S = grp (occs x.ds c.2 net x.ds.length) 24 3 :=
    List.Perm.eq_of_pairwise (fun a b _ _ h1 h2 => (lcmp_zero a b).1 (by have := lcmp_flip a b; omega)) hP (grp_sorted _ _ _) (hS.trans (grp_perm _ _ _ hO).symm)
  rw [e]
  unfold netL'
  rw [cTo_occ]
end Go.Proofs.YtpaiiaajbojmnaaGreat

/- The reference's l29Role and l29Net. -/
namespace Go.Proofs.YtpaiiaajbojmnaaGreat
open Go.RowKit
set_option linter.unusedVariables false
set_option linter.unusedSimpArgs false

set_option maxRecDepth 100000 in
theorem l29Role_any (kind wd len : Int) (a : Option Addr) (n c : Nat) (k : Nat) (hk : k ≤ 1000) (w : World) :
    Calls Tryz.prog 112 #[.agg #[.int .i64 kind, .slice a n c, .int .i64 wd, .int .i64 len], .int .i64 (k : Int)] w fun e w' => e = .returned (.int .i64 (roleOf kind k)) ∧ Below w.heap.size w w' := by
  obtain ⟨r, hr⟩ : ∃ r, roleOf kind k = r := ⟨_, rfl⟩
  rw [hr]
  unfold roleOf at hr
  by_cases h2 : kind = 2
  · subst h2
    have HR := Lib.hid (show (2 : Int) = r by simpa using hr)
    clear hr
    go_enter Tryz.func112, Tryz.ntmps112
    go_wp2
    go_ret
    exact ⟨ret_i64 HR.out, (by ((repeat (first | (with_reducible exact Below.refl _ _) | (with_reducible refine below_drewN ?_ _) | (with_reducible refine Below.drew ?_) | (with_reducible refine below_al ?_ _) | (with_reducible refine below_on (by assumption) ?_) | ((with_reducible refine Below.setCell ?_ ?_ _); rotate_left; focus (first | omega | (simp; done) | (simp; omega))) | (with_reducible assumption))); done))⟩
  · have e1 : (kind == 2) = false := by simpa using h2
    have HR := Lib.hid (show min (k : Int) 1 = r by rw [if_neg h2] at hr; exact hr)
    clear hr h2
    go_enter Tryz.func112, Tryz.ntmps112
    go_wp2
    all_goals go_ret
    all_goals exact ⟨ret_i64 (by rw [← HR.out]; omega), (by ((repeat (first | (with_reducible exact Below.refl _ _) | (with_reducible refine below_drewN ?_ _) | (with_reducible refine Below.drew ?_) | (with_reducible refine below_al ?_ _) | (with_reducible refine below_on (by assumption) ?_) | ((with_reducible refine Below.setCell ?_ ?_ _); rotate_left; focus (first | omega | (simp; done) | (simp; omega))) | (with_reducible assumption))); done))⟩

set_option maxRecDepth 100000 in
set_option maxHeartbeats 4000000 in
theorem specNet_any (x : Nl) (c : List Int × List Int) (net : Nat) (v u : Value) (w : World) (h : NlV w v x) (hc : CoV w u c) (hnet : net < c.1.length) (hcd : c.2.length = x.ds.length) (hl : x.ds.length ≤ 24) (hpn : ∀ d ∈ x.ds, d.pins.length ≤ 3) :
    Calls Tryz.prog 95 #[v, u, .int .i64 (net : Int)] w fun e w' => ∃ v', e = .returned v' ∧ OwnR w' w.heap.size w'.heap.size v' (netL' x c net) ∧ Below w.heap.size w w' := by
  obtain ⟨s1, s2, rfl, hd, hp⟩ := h
  obtain ⟨t1, t2, rfl, hc1, hc2⟩ := hc
  obtain ⟨nets, ds, ps⟩ := x
  obtain ⟨cn, cd⟩ := c
  dsimp only at hd hp hc1 hc2 hnet hcd hl hpn
  obtain ⟨Y, hY⟩ : ∃ Y, netL' ⟨nets, ds, ps⟩ (cn, cd) net = Y := ⟨_, rfl⟩
  rw [hY]
  obtain ⟨c0, hc0⟩ : ∃ z, cn[net]? = some z := ⟨cn[net], List.getElem?_eq_getElem hnet⟩
  have hc0' : nmOf cn (net : Int) = c0 := by simp [nmOf, List.getD_eq_getElem?_getD, hc0]
  have HY := Lib.hid (show [c0] ++ cTo ds cd net 24 = Y by rw [← hY, ← hc0']; rfl)
  have HD := Lib.hid hd
  have HC2 := Lib.hid hc2
  have HCD := Lib.hid hcd
  have HPN := Lib.hid hpn
  have HS1 := Lib.hid (fun c => cTo_succ ds cd (net : Int) c)
  have HS2 := Lib.hid (fun col r => rTo_succ ds cd (net : Int) col r)
  have HS3 := Lib.hid (fun col r i d => dTo_succ ds cd (net : Int) col r i d)
  have HS4 := Lib.hid (fun ci kind pins col r k => pTo_succ ci kind pins (net : Int) col r k)
  have HL1 := Lib.hid (fun c => cTo_len hpn cd (net : Int) c)
  have HL2 := Lib.hid (fun col r => rTo_len hpn cd (net : Int) col r)
  have HL3 := Lib.hid (fun col r i => dTo_len hpn cd (net : Int) col r i)
  have HL4 := Lib.hid (fun ci kind pins col r k => pTo_len ci kind pins (net : Int) col r k)
  have HZ1 := Lib.hid (show cTo ds cd (net : Int) 0 = [] from rfl)
  have HZ2 := Lib.hid (fun col => show rTo ds cd (net : Int) col 0 = [] from rfl)
  have HZ3 := Lib.hid (fun col r => show dTo ds cd (net : Int) col r 0 = [] from rfl)
  have HZ4 := Lib.hid (fun ci kind pins col r => show pTo ci kind pins (net : Int) col r 0 = [] from rfl)
  obtain ⟨a1, c1, rfl⟩ := hd.sized
  obtain ⟨a2, c2, rfl⟩ := hp.sized
  have hc1' := hc1
  obtain ⟨b1, d1, rfl⟩ := hc1.len
  obtain ⟨b2, d2, rfl⟩ := hc2.len
  rcases hc1' with ⟨_, _, _, e2⟩ | ⟨nb, no, nc, hen, _, _, hcn⟩
  · rw [e2] at hnet; simp at hnet
  obtain ⟨rfl, rfl⟩ : b1 = some ⟨nb, no, none⟩ ∧ d1 = nc := by simpa using hen
  have cc := hcn net c0 hc0
  have lc := lt_of_cell cc
  dsimp only at lc
  have m1 : (0 : Int) ≤ (net : Int) := by omega
  have m2 : (net : Int) < (cn.length : Int) := by omega
  clear hd hp hc1 hc2 hY hcd hpn hen hcn hc0 hc0' hnet
  go_enter Tryz.func95, Tryz.ntmps95
  go_wp2
  clear cc
  go_loopw [7, 8, 9, 10, 11] (fun o cl _ _ _ wr => ∃ (q hi : Nat), (q ≤ 24 ∧ cl = .int .i64 q) ∧ Hid (BldI wr (w.heap.size + 1 + 1) hi o ([c0] ++ cTo ds cd (net : Int) q)) ∧ (w.heap.size + 1 + 1) < hi ∧ Blk wr w.heap.size #[.int .i64 nets, .slice a1 ds.length c1, .slice a2 ps.length c2] 27 ∧ Blk wr (w.heap.size + 1) #[.slice (some ⟨nb, no, none⟩) cn.length d1, .slice b2 cd.length d2] 30 ∧ Below w.heap.size w wr) (fun _ cl _ _ _ _ => 24 - (intOf cl).toNat)
  case atStart =>
    refine ⟨0, w.heap.size + 1 + 1 + 1, ⟨Nat.zero_le _, rfl⟩, Lib.hid ?_, by omega, (by ((repeat (first | (with_reducible assumption) | (with_reducible refine Blk.drewN ?_ _) | (with_reducible refine Blk.drew ?_) | ((with_reducible refine Blk.new _ ?_); focus (first | omega | (simp; done) | (simp; omega))) | (with_reducible refine Blk.past ?_ _) | ((with_reducible refine Blk.apart ?_ _ _ _ ?_); rotate_left; focus (first | omega | (simp; done) | (simp; omega))) | (with_reducible refine Blk.by (by assumption) ?_))); done)), (by ((repeat (first | (with_reducible assumption) | (with_reducible refine Blk.drewN ?_ _) | (with_reducible refine Blk.drew ?_) | ((with_reducible refine Blk.new _ ?_); focus (first | omega | (simp; done) | (simp; omega))) | (with_reducible refine Blk.past ?_ _) | ((with_reducible refine Blk.apart ?_ _ _ _ ?_); rotate_left; focus (first | omega | (simp; done) | (simp; omega))) | (with_reducible refine Blk.by (by assumption) ?_))); done)), (by ((repeat (first | (with_reducible exact Below.refl _ _) | (with_reducible refine below_drewN ?_ _) | (with_reducible refine Below.drew ?_) | (with_reducible refine below_al ?_ _) | (with_reducible refine below_on (by assumption) ?_) | ((with_reducible refine Below.setCell ?_ ?_ _); rotate_left; focus (first | omega | (simp; done) | (simp; omega))) | (with_reducible assumption))); done))⟩
    rw [HZ1.out]
    exact BldI.lit (zs := [c0]) (cs := #[.int .i64 c0]) (Blk.new _ (by simp)) rfl (by simp) (Nat.le_refl _) (by omega) (by simp)
  case round =>
    obtain ⟨q, hi, ⟨hq, rfl⟩, HB, hhi, kA, kC, hb⟩ := hrel
    obtain ⟨ao, co, rfl⟩ := HB.out.sized
    by_cases hlq : q < 24
    · have q1 : (q : Int) < 24 := by omega
      go_wp2
      go_loopw [7, 9, 10, 11] (fun o rl _ _ wr => ∃ (r hi : Nat), (r ≤ 3 ∧ rl = .int .i64 r) ∧ Hid (BldI wr (w.heap.size + 1 + 1) hi o ([c0] ++ cTo ds cd (net : Int) q ++ rTo ds cd (net : Int) (q : Int) r)) ∧ (w.heap.size + 1 + 1) < hi ∧ Blk wr w.heap.size #[.int .i64 nets, .slice a1 ds.length c1, .slice a2 ps.length c2] 27 ∧ Blk wr (w.heap.size + 1) #[.slice (some ⟨nb, no, none⟩) cn.length d1, .slice b2 cd.length d2] 30 ∧ Below w.heap.size w wr) (fun _ rl _ _ _ => 3 - (intOf rl).toNat)
      case atStart => exact ⟨0, hi, ⟨Nat.zero_le _, rfl⟩, Lib.hid (by rw [HZ2.out, List.append_nil]; exact HB.out), hhi, kA, kC, hb⟩
      case round =>
        clear HB kA kC hb hhi
        obtain ⟨r, hi, ⟨hr, rfl⟩, HB, hhi, kA, kC, hb⟩ := hrel
        obtain ⟨ao, co, rfl⟩ := HB.out.sized
        by_cases hlr : r < 3
        · have r1 : (r : Int) < 3 := by omega
          go_wp2
          go_loopw [7, 10, 11] (fun o il _ wr => ∃ (i hi : Nat), (i ≤ ds.length ∧ il = .int .i64 i) ∧ Hid (BldI wr (w.heap.size + 1 + 1) hi o ([c0] ++ cTo ds cd (net : Int) q ++ rTo ds cd (net : Int) (q : Int) r ++ dTo ds cd (net : Int) (q : Int) (r : Int) i)) ∧ (w.heap.size + 1 + 1) < hi ∧ Blk wr w.heap.size #[.int .i64 nets, .slice a1 ds.length c1, .slice a2 ps.length c2] 27 ∧ Blk wr (w.heap.size + 1) #[.slice (some ⟨nb, no, none⟩) cn.length d1, .slice b2 cd.length d2] 30 ∧ Below w.heap.size w wr) (fun _ il _ _ => ds.length - (intOf il).toNat)
          case atStart => exact ⟨0, hi, ⟨Nat.zero_le _, rfl⟩, Lib.hid (by rw [HZ3.out, List.append_nil]; exact HB.out), hhi, kA, kC, hb⟩
          case round =>
            clear HB kA kC hb hhi
            obtain ⟨i, hi, ⟨hil, rfl⟩, HB, hhi, kA, kC, hb⟩ := hrel
            obtain ⟨ao, co, rfl⟩ := HB.out.sized
            have qA := kA.cell
            have lA := kA.lt
            by_cases hli : i < ds.length
            · obtain ⟨d, hd⟩ : ∃ d, ds[i]? = some d := ⟨ds[i], List.getElem?_eq_getElem hli⟩
              obtain ⟨ci, hci⟩ : ∃ z, cd[i]? = some z := ⟨cd[i]'(by rw [HCD.out]; exact hli), List.getElem?_eq_getElem _⟩
              have hci' : nmOf cd (i : Int) = ci := by simp [nmOf, List.getD_eq_getElem?_getD, hci]
              rcases HD.out with ⟨_, _, _, e2⟩ | ⟨db, do_, dc, he, _, _, h4⟩
              · rw [e2] at hd; simp at hd
              obtain ⟨rfl, rfl⟩ : a1 = some ⟨db, do_, none⟩ ∧ c1 = dc := by simpa using he
              rcases HC2.out with ⟨_, _, _, e2⟩ | ⟨eb, eo, ec, he', _, _, h5⟩
              · rw [e2] at hci; simp at hci
              obtain ⟨rfl, rfl⟩ : b2 = some ⟨eb, eo, none⟩ ∧ d2 = ec := by simpa using he'
              obtain ⟨sp, w1, w2, w3, w4, hS⟩ := h4 i d hd
              have w5 := h5 i ci hci
              have h3 := HPN.out d (List.mem_of_getElem? hd)
              have HST := Lib.hid (show dTo ds cd (net : Int) (q : Int) (r : Int) (i + 1) = dTo ds cd (net : Int) (q : Int) (r : Int) i ++ pTo ci d.kind d.pins (net : Int) (q : Int) (r : Int) d.pins.length by rw [HS3.out _ _ _ _ hd, hci'])
              have HW1 := Lib.hid w1
              have HW2 := Lib.hid w2
              have HW3 := Lib.hid w3
              have HW4 := Lib.hid w4
              have HW5 := Lib.hid w5
              have HSP := Lib.hid hS
              obtain ⟨ap, cp, rfl⟩ := hS.len
              have i1 : (0 : Int) ≤ (i : Int) := by omega
              have i2 : (i : Int) < (ds.length : Int) := by omega
              have i3 : (i : Int) < (cd.length : Int) := by have := HCD.out; omega
              clear hd hci hci' he he' h4 h5 hS w1 w2 w3 w4 w5
              go_wp2
              go_loopw [7, 11] (fun o kl wr => ∃ (k hi : Nat), (k ≤ d.pins.length ∧ kl = .int .i64 k) ∧ Hid (BldI wr (w.heap.size + 1 + 1) hi o ([c0] ++ cTo ds cd (net : Int) q ++ rTo ds cd (net : Int) (q : Int) r ++ dTo ds cd (net : Int) (q : Int) (r : Int) i ++ pTo ci d.kind d.pins (net : Int) (q : Int) (r : Int) k)) ∧ (w.heap.size + 1 + 1) < hi ∧ Blk wr w.heap.size #[.int .i64 nets, .slice (some ⟨db, do_, none⟩) ds.length c1, .slice a2 ps.length c2] 27 ∧ Blk wr (w.heap.size + 1) #[.slice (some ⟨nb, no, none⟩) cn.length d1, .slice (some ⟨eb, eo, none⟩) cd.length d2] 30 ∧ Below w.heap.size w wr) (fun _ kl _ => d.pins.length - (intOf kl).toNat)
              case atStart => exact ⟨0, hi, ⟨Nat.zero_le _, rfl⟩, Lib.hid (by rw [HZ4.out, List.append_nil]; exact HB.out), hhi, kA, kC, hb⟩
              case round =>
                clear HB kA kC hb hhi qA lA
                obtain ⟨k, hi, ⟨hkl, rfl⟩, HB, hhi, kA, kC, hb⟩ := hrel
                obtain ⟨ao, co, rfl⟩ := HB.out.sized
                have qA := kA.cell
                have qC := kC.cell
                have lA := kA.lt
                have w1 := cell_by' hb HW1.out
                have w2 := cell_by' hb HW2.out
                have w3 := cell_by' hb HW3.out
                have w4 := cell_by' hb HW4.out
                have w5 := cell_by' hb HW5.out
                by_cases hlk : k < d.pins.length
                · obtain ⟨p, hp⟩ : ∃ z, d.pins[k]? = some z := ⟨d.pins[k], List.getElem?_eq_getElem hlk⟩
                  have hgp : d.pins.getD k 0 = p := by simp [List.getD_eq_getElem?_getD, hp]
                  obtain ⟨Z, hZ⟩ : ∃ Z, [c0] ++ cTo ds cd (net : Int) q ++ rTo ds cd (net : Int) (q : Int) r ++ dTo ds cd (net : Int) (q : Int) (r : Int) i ++ pTo ci d.kind d.pins (net : Int) (q : Int) (r : Int) k = Z := ⟨_, rfl⟩
                  have hlen : Z.length + 2 ≤ 8000000 := by
                    rw [← hZ]
                    have l1 := HL1.out q
                    have l2 := HL2.out (q : Int) r
                    have l3 := HL3.out (q : Int) (r : Int) i
                    have l4 := HL4.out ci d.kind d.pins (q : Int) (r : Int) k
                    have l5 : q * (3 * (ds.length * 6)) ≤ 24 * (3 * (24 * 6)) := Nat.mul_le_mul hq (by omega)
                    have l6 : r * (ds.length * 6) ≤ 3 * (24 * 6) := Nat.mul_le_mul hr (by omega)
                    simp only [List.length_append, List.length_singleton]
                    omega
                  have HY1 := Lib.hid (show ci = (q : Int) → p = (net : Int) → roleOf d.kind k = (r : Int) → [c0] ++ cTo ds cd (net : Int) q ++ rTo ds cd (net : Int) (q : Int) r ++ dTo ds cd (net : Int) (q : Int) (r : Int) i ++ pTo ci d.kind d.pins (net : Int) (q : Int) (r : Int) (k + 1) = Z ++ [(q : Int), (r : Int)] from fun h1 h2 h3 => by rw [HS4.out, if_pos (by simp [pHit, h1, h3, hp, h2]), ← List.append_assoc, hZ])
                  have HN1 := Lib.hid (show ¬ (ci = (q : Int) ∧ p = (net : Int) ∧ roleOf d.kind k = (r : Int)) → [c0] ++ cTo ds cd (net : Int) q ++ rTo ds cd (net : Int) (q : Int) r ++ dTo ds cd (net : Int) (q : Int) (r : Int) i ++ pTo ci d.kind d.pins (net : Int) (q : Int) (r : Int) (k + 1) = Z from fun h1 => by rw [HS4.out, if_neg (by simpa [pHit, hp] using h1), List.append_nil, hZ])
                  have HBZ : Hid (BldI wr (w.heap.size + 1 + 1) hi (.slice ao Z.length co) Z) := by
                    have := HB.out
                    rw [hZ] at this
                    exact Lib.hid this
                  have hZl : ([c0] ++ cTo ds cd (net : Int) q ++ rTo ds cd (net : Int) (q : Int) r ++ dTo ds cd (net : Int) (q : Int) (r : Int) i ++ pTo ci d.kind d.pins (net : Int) (q : Int) (r : Int) k).length = Z.length := by rw [hZ]
                  rw [hZl]
                  clear HB hZ hZl
                  rcases HSP.out with ⟨_, _, _, e2⟩ | ⟨pb, po, pc, hep, _, _, hpp⟩
                  · rw [e2] at hp; simp at hp
                  obtain ⟨rfl, rfl⟩ : ap = some ⟨pb, po, none⟩ ∧ cp = pc := by simpa using hep
                  have w6 := cell_by' hb (hpp k p hp)
                  have HRO := Lib.hid (fun w => l29Role_any d.kind d.wd d.len (some ⟨pb, po, none⟩) d.pins.length cp k (by omega) w)
                  obtain ⟨ro, hro⟩ : ∃ ro, roleOf d.kind k = ro := ⟨_, rfl⟩
                  rw [hro] at HRO HY1 HN1
                  have k1 : (0 : Int) ≤ (k : Int) := by omega
                  have k2 : (k : Int) < (d.pins.length : Int) := by omega
                  have HLN := Lib.hid hlen
                  clear hp hgp hep hpp hro hlen
                  by_cases e1 : ci = (q : Int)
                  · obtain rfl := e1
                    by_cases e2 : p = (net : Int)
                    · obtain rfl := e2
                      go_wp2_with fail
                      refine (HRO.out _).mono ?_
                      rintro e w1 ⟨rfl, hb1⟩
                      have HB1 := Lib.hid (HBZ.out.by hb1)
                      have kA1 := Blk.by hb1 kA
                      have kC1 := Blk.by hb1 kC
                      have hw1 := below_on hb1 hb
                      have s1 := hb1.size
                      clear hb1
                      by_cases e3 : ro = (r : Int)
                      · obtain rfl := e3
                        have HY2 := Lib.hid (HY1.out (by first | trivial | rfl) (by first | trivial | rfl) (by first | trivial | rfl))
                        clear HY1 HN1
                        go_wp2_with (refine list_pushI (by rfl) _ _ (by rfl) (w.heap.size + 1 + 1) hi (.slice ao Z.length co) Z [(q : Int), (r : Int)] (by rfl) (HB1.out.by (by ((repeat (first | (with_reducible exact Below.refl _ _) | (with_reducible refine below_drewN ?_ _) | (with_reducible refine Below.drew ?_) | (with_reducible refine below_al ?_ _) | (with_reducible refine below_on (by assumption) ?_) | ((with_reducible refine Below.setCell ?_ ?_ _); rotate_left; focus (first | omega | (simp; done) | (simp; omega))) | (with_reducible assumption))); done))) w1.heap.size 2 _ (by rfl) (by rfl) (by omega) (Blk.new _ rfl) (by simp [icells] <;> omega) (by omega) HLN.out ?_; intro a4 c4 w4 hB4 hw4; have HB4 := Lib.hid hB4; have hW4 : Below w.heap.size w w4 := hw4.below (by first | exact (by ((repeat (first | (with_reducible exact Below.refl _ _) | (with_reducible refine below_drewN ?_ _) | (with_reducible refine Below.drew ?_) | (with_reducible refine below_al ?_ _) | (with_reducible refine below_on (by assumption) ?_) | ((with_reducible refine Below.setCell ?_ ?_ _); rotate_left; focus (first | omega | (simp; done) | (simp; omega))) | (with_reducible assumption))); done))) (by omega); have kA4 : Blk w4 w.heap.size #[.int .i64 nets, .slice (some ⟨db, do_, none⟩) ds.length c1, .slice a2 ps.length c2] 27 := hw4.blk (by ((repeat (first | (with_reducible assumption) | (with_reducible refine Blk.drewN ?_ _) | (with_reducible refine Blk.drew ?_) | ((with_reducible refine Blk.new _ ?_); focus (first | omega | (simp; done) | (simp; omega))) | (with_reducible refine Blk.past ?_ _) | ((with_reducible refine Blk.apart ?_ _ _ _ ?_); rotate_left; focus (first | omega | (simp; done) | (simp; omega))) | (with_reducible refine Blk.by (by assumption) ?_))); done)) (by omega); have kC4 : Blk w4 (w.heap.size + 1) #[.slice (some ⟨nb, no, none⟩) cn.length d1, .slice (some ⟨eb, eo, none⟩) cd.length d2] 30 := hw4.blk (by ((repeat (first | (with_reducible assumption) | (with_reducible refine Blk.drewN ?_ _) | (with_reducible refine Blk.drew ?_) | ((with_reducible refine Blk.new _ ?_); focus (first | omega | (simp; done) | (simp; omega))) | (with_reducible refine Blk.past ?_ _) | ((with_reducible refine Blk.apart ?_ _ _ _ ?_); rotate_left; focus (first | omega | (simp; done) | (simp; omega))) | (with_reducible refine Blk.by (by assumption) ?_))); done)) (by omega); have s4 := hB4.1; clear hB4)
                        refine ⟨⟨k + 1, w4.heap.size, ⟨by omega, by go_num⟩, Lib.hid ?_, ?_, kA4, kC4, hW4⟩, by simp [intOf]; omega⟩
                        · rw [HY2.out]
                          exact HB4.out
                        · have h1 := hw4.size; have h2 := HB1.out.1; simp at h1; omega
                      · have e3' : (ro == (r : Int)) = false := by simpa using e3
                        go_wp2
                        refine ⟨⟨k + 1, hi, ⟨by omega, by go_num⟩, Lib.hid ?_, hhi, kA1, kC1, hw1⟩, by simp [intOf]; omega⟩
                        rw [HN1.out (fun h => e3 h.2.2)]
                        exact HB1.out
                    · have e2' : (p == (net : Int)) = false := by simpa using e2
                      go_wp2
                      refine ⟨⟨k + 1, hi, ⟨by omega, by go_num⟩, Lib.hid ?_, hhi, kA, kC, hb⟩, by simp [intOf]; omega⟩
                      rw [HN1.out (fun h => e2 h.2.1)]
                      exact HBZ.out
                  · have e1' : (ci == (q : Int)) = false := by simpa using e1
                    go_wp2
                    refine ⟨⟨k + 1, hi, ⟨by omega, by go_num⟩, Lib.hid ?_, hhi, kA, kC, hb⟩, by simp [intOf]; omega⟩
                    rw [HN1.out (fun h => e1 h.1)]
                    exact HBZ.out
                · obtain rfl : k = d.pins.length := by omega
                  go_wp2
                  refine ⟨⟨i + 1, hi, ⟨by omega, by go_num⟩, Lib.hid ?_, hhi, kA, kC, hb⟩, by simp [intOf]; omega⟩
                  rw [HST.out, ← List.append_assoc]
                  exact HB.out
            · obtain rfl : i = ds.length := by omega
              go_wp2
              refine ⟨⟨r + 1, hi, ⟨by omega, by go_num⟩, Lib.hid ?_, hhi, kA, kC, hb⟩, by simp [intOf]; omega⟩
              rw [HS2.out, ← List.append_assoc]
              exact HB.out
        · obtain rfl : r = 3 := by omega
          have r1 : ¬ ((3 : Nat) : Int) < 3 := by omega
          go_wp2
          refine ⟨⟨q + 1, hi, ⟨by omega, by go_num⟩, Lib.hid ?_, hhi, kA, kC, hb⟩, by simp [intOf]; omega⟩
          rw [HS1.out, ← List.append_assoc]
          exact HB.out
    · obtain rfl : q = 24 := by omega
      have q1 : ¬ ((24 : Nat) : Int) < 24 := by omega
      have hfin := HB.out
      rw [HY.out] at hfin
      have HF := Lib.hid hfin
      have hYl : ([c0] ++ cTo ds cd (net : Int) 24).length = Y.length := by rw [HY.out]
      rw [hYl]
      clear HB hfin hYl
      go_wp2
      go_ret
      exact ⟨_, rfl, OwnR.wide' HF.out.own (show w.heap.size ≤ w.heap.size + 1 + 1 by omega) HF.out.1, hb⟩
end Go.Proofs.YtpaiiaajbojmnaaGreat
