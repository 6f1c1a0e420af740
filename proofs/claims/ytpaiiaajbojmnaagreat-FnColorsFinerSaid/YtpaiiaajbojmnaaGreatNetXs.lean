/- slices.SortFunc at a row of slices in memory of its own. -/
import Derived.Test.YtpaiiaajbojmnaaGreatNetBs
import Derived.Test.YtpaiiaajbojmnaaGreatNSigs
import Derived.Test.YtpaiiaajbojmnaaGreatSorts
import Derived.Test.YtpaiiaajbojmnaaGreatConcatL
import Derived.Test.YtpaiiaajbojmnaaGreatNls
import Derived.BigRegion
namespace Go.Proofs.YtpaiiaajbojmnaaGreat
open Go.RowKit
set_option linter.unusedVariables false
set_option linter.unusedSimpArgs false

set_option maxRecDepth 100000 in
theorem sortRow_any (L : Nat) (P : Nat → Prop) (v : Value) (ls : List (List Int)) (w : World) (h : RowE w L P v ls) (hn : ls.length ≤ 1000000) :
    Calls Tryz.prog 54 #[v, .func (.func 62) #[] #[]] w fun e w' => e = .returned (.tuple #[]) ∧
      ∃ S : List (List Int), S.Perm ls ∧ S.Pairwise (fun a b => lcmp a b ≤ 0) ∧ RowE w' L P v S ∧ (∀ k, k < w.heap.size → v.ownBlock ≠ some k → w'.heap[k]? = w.heap[k]?) ∧ Within L w.heap.size w w' := by
  obtain ⟨vs, ⟨hvl, hrow⟩, h2, h3, h4⟩ := h
  rcases hrow with ⟨rfl, hz⟩ | ⟨g, cap, cur, rfl, c1, c2, c3, c4, c5, c6⟩
  · have hls : ls = [] := List.eq_nil_of_length_eq_zero hz
    subst hls
    refine (Tryz.slices_SortFunc_none (α := Nat) none 0 _ w).mono ?_
    rintro e w' ⟨rfl, rfl⟩
    exact ⟨rfl, [], List.Perm.refl _, List.Pairwise.nil, RowE.nil _ _ _, fun _ _ _ => rfl, Within.refl _ _ _⟩
  · obtain ⟨hg1, hg2, hg3⟩ := h3 g rfl
    simp only [Nat.mul_one] at c5 c6
    have hpl : (vs.zip ls).length = ls.length := by rw [List.length_zip, h2]; simp
    have hz : ∀ (i : Nat) p, (vs.zip ls)[i]? = some p → vs[i]? = some p.1 ∧ ls[i]? = some p.2 := fun i p hp => by
      rw [List.getElem?_zip_eq_some] at hp; exact hp
    have hmem : ∀ p ∈ vs.zip ls, ∃ f, P f ∧ f < w.heap.size ∧ OwnR w f (f + 1) p.1 p.2 := fun p hp => by
      obtain ⟨i, hi, e⟩ := List.mem_iff_getElem.1 hp
      obtain ⟨a, b⟩ := hz i p (by rw [List.getElem?_eq_getElem hi, e])
      exact h4 i _ _ b a
    have hs := sortFuncL_any 62 (fun args w => rfl) (fun W s1 s2 xs ys a b => nsig1_any s1 s2 xs ys W a b) g cap (vs.zip ls) w cur c2 (fun i p hp => by
      have := (hz i p hp).1
      rw [← c6, List.getElem?_take] at this
      split at this
      · simpa using this
      · cases this) (fun p hp => by
      obtain ⟨f, f1, f2, f3⟩ := hmem p hp
      refine ⟨f3.sl.one, fun w' ho => (f3.same fun k k1 k2 => ?_).sl⟩
      obtain rfl : k = f := by omega
      exact ho k f2 (fun e => hg3 (e ▸ f1))) (by rw [hpl]; exact hn)
    rw [hpl] at hs
    refine hs.mono ?_
    rintro e w' ⟨rfl, qs, ds, q1, q2, q3, q4, q5, q6⟩
    have hql : qs.length = ls.length := by rw [q1.length_eq, hpl]
    have hSp : (qs.map (·.2)).Perm ls := by
      have := q1.map (·.2)
      rwa [List.map_snd_zip (by rw [h2]; exact Nat.le_refl _)] at this
    refine ⟨rfl, qs.map (·.2), hSp, List.pairwise_map.2 q2, ⟨qs.map (·.1), ⟨by simp, ?_⟩, by simp, fun g' hg' => ?_, fun i x s hx hp => ?_⟩, fun k hk hne => q6.block k hk ?_, ⟨q6.os, q6.tape, q6.output, q6.size, fun k hk hne => q6.block k hk (by omega)⟩⟩
    · refine .inr ⟨g, cap, ds, by simp [hql], c1, q3, by simp [hql]; exact c3, c4, by rw [q4, c5, Nat.mul_one], ?_⟩
      rw [Nat.mul_one, List.length_map, hql]
      refine List.ext_getElem? fun i => ?_
      rw [List.getElem?_take, List.getElem?_map]
      split
      · obtain ⟨q, hq⟩ : ∃ q, qs[i]? = some q := ⟨qs[i]'(by omega), List.getElem?_eq_getElem _⟩
        rw [hq, Array.getElem?_toList, q5 i q hq]
        rfl
      · rw [List.getElem?_eq_none (by omega)]
        rfl
    · have : g = g' := by injection hg'
      subst this
      exact ⟨hg1, Nat.lt_of_lt_of_le hg2 q6.size, hg3⟩
    · rw [List.getElem?_map, Option.map_eq_some_iff] at hx hp
      obtain ⟨q, e1, rfl⟩ := hx
      obtain ⟨q', e2, rfl⟩ := hp
      rw [e1] at e2
      cases e2
      obtain ⟨f, f1, f2, f3⟩ := hmem q (q1.mem_iff.1 (List.mem_of_getElem? e1))
      refine ⟨f, f1, Nat.lt_of_lt_of_le f2 q6.size, f3.same fun k k1 k2 => ?_⟩
      obtain rfl : k = f := by omega
      refine q6.block k f2 ?_
      have : k ≠ g := fun e => hg3 (e ▸ f1)
      omega
    · have : g ≠ k := fun e => hne (by rw [← e]; rfl)
      omega
end Go.Proofs.YtpaiiaajbojmnaaGreat

/- The program's netSignatures. -/
namespace Go.Proofs.YtpaiiaajbojmnaaGreat
open Go.RowKit
set_option linter.unusedVariables false
set_option linter.unusedSimpArgs false

theorem ownR_cells {w : World} {g : Nat} {cs : Array Value} {zs : List Int} (h : Blk w g cs 2) (hc : cs.toList = icells zs) (hz : zs.length ≤ 1000) : OwnR w g (g + 1) (.slice (some ⟨g, 0, none⟩) zs.length zs.length) zs := by
  have hl : cs.size = zs.length := by rw [← Array.length_toList, hc]; simp [icells]
  refine .inr ⟨g, zs.length, cs, rfl, Nat.le_refl _, Nat.lt_succ_self _, Nat.le_refl _, by unfold maxLen; omega, h, fun i x hx => ?_⟩
  rw [← Array.getElem?_toList, hc]
  simp [icells, hx]

theorem OwnR.new {w : World} {lo hi : Nat} {sv : Value} {zs : List Int} (h : OwnR w lo hi sv zs) (o : Obj) : OwnR (w.alloc o) lo hi sv zs := h.by ((Below.refl _ w).alloc (Nat.le_refl _) o)

theorem below_two (w : World) (o o' : Obj) : Below w.heap.size w ((w.alloc o).alloc o') := ((Below.refl _ w).alloc (Nat.le_refl _) o).alloc (by simp) o'
theorem RowE.two {w : World} {L : Nat} {P : Nat → Prop} {v : Value} {ls : List (List Int)} (h : RowE w L P v ls) (o o' : Obj) : RowE ((w.alloc o).alloc o') L P v ls := h.off (below_two w o o').size (fun z hz _ => (below_two w o o').block z hz)
theorem OwnR.pick' {w : World} {lo hi : Nat} {s : Value} {zs : List Int} (h : OwnR w lo hi s zs) (hz : 0 < zs.length) : ∃ f, (lo ≤ f ∧ f < hi) ∧ OwnR w f (f + 1) s zs := by
  rcases h with ⟨_, _, _, e⟩ | ⟨g, cap, cs, h1, h2, h2', h3⟩
  · rw [e] at hz; simp at hz
  · exact ⟨g, ⟨h2, h2'⟩, .inr ⟨g, cap, cs, h1, Nat.le_refl _, Nat.lt_succ_self _, h3⟩⟩

set_option maxRecDepth 100000 in
set_option maxHeartbeats 2000000 in
theorem implNet_any (x : Nl) (c : List Int × List Int) (m : Nat) (v u : Value) (w : World) (h : NlV w v x) (hc : CoV w u c) (hm : x.nets = m) (hm24 : m ≤ 24) (hl : x.ds.length ≤ 24) (hcn : c.1.length = m) (hcd : c.2.length = x.ds.length)
    (hpn : ∀ d ∈ x.ds, d.pins.length ≤ 3 ∧ ∀ p ∈ d.pins, 0 ≤ p ∧ p < m) (hO : ∀ net, ∀ o ∈ occs x.ds c.2 net x.ds.length, ∃ q r : Nat, q < 24 ∧ r < 3 ∧ o = [(q : Int), (r : Int)])
    (HSR : Hid (∀ (L : Nat) (P : Nat → Prop) (v : Value) (ls : List (List Int)) (w : World), RowE w L P v ls → ls.length ≤ 1000000 → Calls Tryz.prog 54 #[v, .func (.func 62) #[] #[]] w fun e w' => e = .returned (.tuple #[]) ∧
      ∃ S : List (List Int), S.Perm ls ∧ S.Pairwise (fun a b => lcmp a b ≤ 0) ∧ RowE w' L P v S ∧ (∀ k, k < w.heap.size → v.ownBlock ≠ some k → w'.heap[k]? = w.heap[k]?) ∧ Within L w.heap.size w w')) :
    Calls Tryz.prog 29 #[v, u] w fun e w' => ∃ v', e = .returned v' ∧ BldL w' w.heap.size w'.heap.size v' ((List.range m).map fun j : Nat => netL' x c (j : Int)) ∧ Below w.heap.size w w' := by
  obtain ⟨s1, s2, rfl, hd, hp⟩ := h
  obtain ⟨t1, t2, rfl, hc1, hc2⟩ := hc
  have hpn' : ∀ d ∈ x.ds, d.pins.length ≤ 3 := fun d hd => (hpn d hd).1
  obtain ⟨Z, hZ⟩ : ∃ Z, ((List.range m).map fun j : Nat => netL' x c (j : Int)) = Z := ⟨_, rfl⟩
  rw [hZ]
  have hZl : Z.length = m := by rw [← hZ]; simp
  have hZt : ∀ k, k < m → Z.take (k + 1) = Z.take k ++ [netL' x c (k : Int)] := fun k hk => take_snoc_of Z k _ (by rw [← hZ]; simp [hk])
  have hZn : ∀ k : Nat, (netL' x c (k : Int)).length ≤ 20000 := fun k => by
    have h1 := cTo_len hpn' c.2 (k : Int) 24
    have h2 : 24 * (3 * (x.ds.length * 6)) ≤ 10368 := by omega
    unfold netL'
    rw [List.length_append]
    simp
    omega
  have hZs : ∀ (k : Nat) (S : List (List Int)), S.Perm (occs x.ds c.2 (k : Int) x.ds.length) → S.Pairwise (fun a b => lcmp a b ≤ 0) → [nmOf c.1 (k : Int)] ++ S.flatten = netL' x c (k : Int) ∧ (∀ o ∈ S, 0 < o.length) := fun k S h1 h2 => ⟨netL_sorted x c (k : Int) S h1 h2 (hO _), fun o ho => by
    obtain ⟨_, _, _, _, rfl⟩ := hO _ o (h1.mem_iff.1 ho)
    simp⟩
  obtain ⟨nets, ds, ps⟩ := x
  obtain ⟨cn, cd⟩ := c
  dsimp only at hd hp hc1 hc2 hm hl hcn hcd hpn hpn' hZs hZt hZn
  subst hm
  obtain ⟨X, hX⟩ : ∃ X : Nat → List Int, ∀ k : Nat, netL' ⟨(m : Int), ds, ps⟩ (cn, cd) (k : Int) = X k := ⟨_, fun _ => rfl⟩
  simp only [hX] at hZt hZn hZs
  clear hX hZ hO
  have HD := Lib.hid hd
  have HC1 := Lib.hid hc1
  have HC2 := Lib.hid hc2
  have HPN := Lib.hid hpn
  have HZT := Lib.hid hZt
  have HZN := Lib.hid hZn
  have HZS := Lib.hid hZs
  have HZL := Lib.hid hZl
  have HO1 := Lib.hid (fun net i d => occs_succ ds cd net i d)
  have HO2 := Lib.hid (fun ci kind pins net k => occD_succ ci kind pins net k)
  have HO3 := Lib.hid (fun net i => occs_len hpn' cd net i)
  have HO4 := Lib.hid (fun ci kind pins net k => occD_len ci kind pins net k)
  have HO0 := Lib.hid (fun net => show occs ds cd net 0 = [] from rfl)
  have HOD0 := Lib.hid (fun ci kind pins net => show occD ci kind pins net 0 = [] from rfl)
  have HCC := Lib.hid (fun ls sv w h h0 hb hn hne => concatI_any ls sv w h h0 hb hn hne)
  obtain ⟨a1, c1, rfl⟩ := hd.sized
  obtain ⟨a2, c2, rfl⟩ := hp.sized
  obtain ⟨b1, e1, rfl⟩ := hc1.len
  obtain ⟨b2, e2, rfl⟩ := hc2.len
  obtain ⟨N, hN⟩ : ∃ N, w.heap.size + 1 + 1 = N := ⟨_, rfl⟩
  obtain ⟨cs0, hcs0, hcz, hmk⟩ := make_lists3 m (by omega) ((w.alloc (.cells #[.int .i64 (m : Int), .slice a1 ds.length c1, .slice a2 ps.length c2] 27)).alloc (.cells #[.slice b1 cn.length e1, .slice b2 cd.length e2] 30))
  simp only [World.size_alloc] at hmk
  have HN := Lib.hid hN
  have hcn1 : m ≤ cn.length := by omega
  have hcd1 : ds.length ≤ cd.length := by omega
  have hcd2 : cd.length ≤ ds.length := by omega
  clear hd hp hc1 hc2 hN hpn hpn' hZl hZt hZn hZs hcn hcd
  go_enter Tryz.func29, Tryz.ntmps29
  go_wp2
  clear hmk
  rw [HN.out]
  obtain ⟨wI, hwI⟩ : ∃ wI, wI = ((w.alloc (.cells #[.int .i64 (m : Int), .slice a1 ds.length c1, .slice a2 ps.length c2] 27)).alloc (.cells #[.slice b1 cn.length e1, .slice b2 cd.length e2] 30)).alloc (.cells cs0 38) := ⟨_, rfl⟩
  have kA : Blk wI w.heap.size #[.int .i64 (m : Int), .slice a1 ds.length c1, .slice a2 ps.length c2] 27 := by rw [hwI]; exact (by ((repeat (first | (with_reducible assumption) | (with_reducible refine Blk.drewN ?_ _) | (with_reducible refine Blk.drew ?_) | ((with_reducible refine Blk.new _ ?_); focus (first | omega | (simp; done) | (simp; omega))) | (with_reducible refine Blk.past ?_ _) | ((with_reducible refine Blk.apart ?_ _ _ _ ?_); rotate_left; focus (first | omega | (simp; done) | (simp; omega))) | (with_reducible refine Blk.by (by assumption) ?_))); done))
  have kC : Blk wI (w.heap.size + 1) #[.slice b1 cn.length e1, .slice b2 cd.length e2] 30 := by rw [hwI]; exact (by ((repeat (first | (with_reducible assumption) | (with_reducible refine Blk.drewN ?_ _) | (with_reducible refine Blk.drew ?_) | ((with_reducible refine Blk.new _ ?_); focus (first | omega | (simp; done) | (simp; omega))) | (with_reducible refine Blk.past ?_ _) | ((with_reducible refine Blk.apart ?_ _ _ _ ?_); rotate_left; focus (first | omega | (simp; done) | (simp; omega))) | (with_reducible refine Blk.by (by assumption) ?_))); done))
  have kN : Blk wI N cs0 38 := by rw [hwI, ← HN.out]; exact (by ((repeat (first | (with_reducible assumption) | (with_reducible refine Blk.drewN ?_ _) | (with_reducible refine Blk.drew ?_) | ((with_reducible refine Blk.new _ ?_); focus (first | omega | (simp; done) | (simp; omega))) | (with_reducible refine Blk.past ?_ _) | ((with_reducible refine Blk.apart ?_ _ _ _ ?_); rotate_left; focus (first | omega | (simp; done) | (simp; omega))) | (with_reducible refine Blk.by (by assumption) ?_))); done))
  have hbI : Below w.heap.size w wI := by rw [hwI]; exact (by ((repeat (first | (with_reducible exact Below.refl _ _) | (with_reducible refine below_drewN ?_ _) | (with_reducible refine Below.drew ?_) | (with_reducible refine below_al ?_ _) | (with_reducible refine below_on (by assumption) ?_) | ((with_reducible refine Below.setCell ?_ ?_ _); rotate_left; focus (first | omega | (simp; done) | (simp; omega))) | (with_reducible assumption))); done))
  have HNI : Hid (NetsB wI N (N + 1) m (fun j : Nat => occs ds cd (j : Int) 0)) := by
    apply Lib.hid
    refine ⟨fun _ => False, cs0, fun _ => .slice none 0 0, fun k hk => hk.elim, kN, hcs0, fun j hj => ⟨hcz j hj, ?_⟩, fun i j hi hj hij g hg => by cases hg⟩
    show RowE wI (N + 1) _ (.slice none 0 0) (occs ds cd (j : Int) 0)
    rw [HO0.out]
    exact RowE.nil wI (N + 1) _
  have hNw : w.heap.size + 1 < N := by have := HN.out; omega
  rw [← hwI]
  clear hwI kN hcz hcs0
  go_loopw [20] (fun i wr => ∃ k : Nat, k ≤ ds.length ∧ i = .int .i64 k ∧ Hid (NetsB wr N (N + 1) m (fun j : Nat => occs ds cd (j : Int) k)) ∧ Blk wr w.heap.size #[.int .i64 (m : Int), .slice a1 ds.length c1, .slice a2 ps.length c2] 27 ∧ Blk wr (w.heap.size + 1) #[.slice b1 cn.length e1, .slice b2 cd.length e2] 30 ∧ Below w.heap.size w wr) (fun i _ => ds.length - (intOf i).toNat)
  case atStart => exact ⟨0, Nat.zero_le _, rfl, HNI, kA, kC, hbI⟩
  case round =>
    clear HNI kA kC hbI
    obtain ⟨k, hk, rfl, HNI, kA, kC, hb⟩ := hrel
    have qA := kA.cell
    have lA := kA.lt
    by_cases hlt : k < ds.length
    · obtain ⟨d, hd⟩ : ∃ d, ds[k]? = some d := ⟨ds[k], List.getElem?_eq_getElem hlt⟩
      obtain ⟨hp3, hpq⟩ := HPN.out d (List.mem_of_getElem? hd)
      rcases HD.out with ⟨_, _, _, e2⟩ | ⟨db, do_, dc, he, _, _, h4⟩
      · rw [e2] at hd; simp at hd
      obtain ⟨rfl, rfl⟩ : a1 = some ⟨db, do_, none⟩ ∧ c1 = dc := by simpa using he
      obtain ⟨sp, d1, d2, d3, d4, hS⟩ := (h4 k d hd).by hb
      have HS0 : Hid (IntSl w sp d.pins) := by
        obtain ⟨sp', f1, f2, f3, f4, hS'⟩ := h4 k d hd
        have := cell_by' hb f2
        rw [d2] at this
        have e : sp = sp' := by simpa using this
        rw [e]
        exact Lib.hid hS'
      obtain ⟨ck, hck⟩ : ∃ ck, cd[k]? = some ck := ⟨cd[k]'(by omega), List.getElem?_eq_getElem _⟩
      have hck' : nmOf cd (k : Int) = ck := by simp [nmOf, List.getD_eq_getElem?_getD, hck]
      rcases HC2.out with ⟨_, _, _, e2'⟩ | ⟨cb, co, cc, hce, _, _, c4⟩
      · rw [e2'] at hck; simp at hck
      obtain ⟨rfl, rfl⟩ : b2 = some ⟨cb, co, none⟩ ∧ e2 = cc := by simpa using hce
      have hcell := c4 k ck hck
      have HCL := Lib.hid hcell
      have HCK := Lib.hid hck'
      have hcbl := lt_of_cell hcell
      dsimp only at hcbl
      obtain ⟨ap, cp, rfl⟩ := hS.len
      have HST := Lib.hid (fun net => HO1.out net k d hd)
      have HPQ := Lib.hid hpq
      obtain ⟨kind, pins, wd, len⟩ := d
      dsimp only at d1 d2 d3 d4 hp3 HS0 HST HPQ ⊢
      rw [hck'] at HST
      have i1 : (0 : Int) ≤ (k : Int) := by omega
      have i2 : (k : Int) < (ds.length : Int) := by omega
      clear hd h4 he hS hpq hck hck' hce c4 hcell
      go_wp2
      obtain ⟨D, hD⟩ : ∃ D, wr.heap.size = D := ⟨_, rfl⟩
      obtain ⟨wA, hwA⟩ : ∃ wA, wA = wr.alloc (.cells #[.int .i64 kind, .slice ap pins.length cp, .int .i64 wd, .int .i64 len] 62) := ⟨_, rfl⟩
      have hal : Below wr.heap.size wr wA := by rw [hwA]; exact (Below.refl _ wr).alloc (Nat.le_refl _) _
      have kD : Blk wA D #[.int .i64 kind, .slice ap pins.length cp, .int .i64 wd, .int .i64 len] 62 := by rw [hwA]; exact Blk.new _ hD.symm
      have hsA : wA.heap.size = D + 1 := by rw [hwA]; simp [hD]
      have hwl := lA
      have hND : N < D := by
        obtain ⟨P, hP⟩ := HNI.out
        obtain ⟨_, _, _, q1, _⟩ := hP
        have := q1.lt
        omega
      have HNA : Hid (∃ P : Nat → Prop, P D ∧ NetsQ wA N (N + 1) m P (fun j : Nat => occs ds cd (j : Int) k ++ occD ck kind pins (j : Int) 0)) := by
        apply Lib.hid
        obtain ⟨P, hP⟩ := HNI.out
        have hNl : N < wr.heap.size := by
          obtain ⟨_, _, _, q1, _⟩ := hP
          exact q1.lt
        have := NetsQ.mark (D := D) hal hP (by omega) (by omega) (by omega)
        have e : (fun j : Nat => occs ds cd (j : Int) k ++ occD ck kind pins (j : Int) 0) = (fun j : Nat => occs ds cd (j : Int) k) := by
          funext j
          rw [HOD0.out, List.append_nil]
        rw [e]
        exact ⟨_, .inr rfl, this⟩
      have kA' := Blk.by hal kA
      have kC' := Blk.by hal kC
      have hb' := below_on hal hb
      rw [← hwA]
      (try rw [hD])
      clear hwA HNI kA kC hb qA lA hal hD d1 d2 d3 d4
      go_loopw [28] (fun i wr2 => ∃ p : Nat, p ≤ pins.length ∧ i = .int .i64 p ∧ Hid (∃ P : Nat → Prop, P D ∧ NetsQ wr2 N (N + 1) m P (fun j : Nat => occs ds cd (j : Int) k ++ occD ck kind pins (j : Int) p)) ∧ Blk wr2 D #[.int .i64 kind, .slice ap pins.length cp, .int .i64 wd, .int .i64 len] 62 ∧ Blk wr2 w.heap.size #[.int .i64 (m : Int), .slice (some ⟨db, do_, none⟩) ds.length c1, .slice a2 ps.length c2] 27 ∧ Blk wr2 (w.heap.size + 1) #[.slice b1 cn.length e1, .slice (some ⟨cb, co, none⟩) cd.length e2] 30 ∧ Below w.heap.size w wr2) (fun i _ => pins.length - (intOf i).toNat)
      case atStart => exact ⟨0, Nat.zero_le _, rfl, HNA, kD, kA', kC', hb'⟩
      case round =>
        clear HNA kD kA' kC' hb' hwl hsA
        obtain ⟨p, hp, rfl, HNQ, kD, kA, kC, hb⟩ := hrel
        have qD := kD.cell
        have qC := kC.cell
        have lD := kD.lt
        have lC := kC.lt
        by_cases hlp : p < pins.length
        · obtain ⟨q', hq'⟩ : ∃ q', pins[p]? = some q' := ⟨pins[p], List.getElem?_eq_getElem hlp⟩
          obtain ⟨hq0, hq1⟩ := HPQ.out q' (List.mem_of_getElem? hq')
          rcases HS0.out with ⟨_, _, _, e3⟩ | ⟨pb, po, pc, hpe, _, _, p4⟩
          · rw [e3] at hq'; simp at hq'
          obtain ⟨rfl, rfl⟩ : ap = some ⟨pb, po, none⟩ ∧ cp = pc := by simpa using hpe
          have pcell := cell_by' hb (p4 p q' hq')
          have hqd : pins.getD p 0 = q' := by simp [List.getD_eq_getElem?_getD, hq']
          obtain ⟨q, rfl⟩ : ∃ q : Nat, q' = q := ⟨q'.toNat, by omega⟩
          have hqm : q < m := by omega
          have HSD := Lib.hid (fun j : Nat => show occD ck kind pins (j : Int) (p + 1) = occD ck kind pins (j : Int) p ++ (if q = j then [[ck, roleOf kind p]] else []) from by
            rw [HO2.out, hqd]
            congr 1
            by_cases e : q = j
            · rw [if_pos e, if_pos (by omega)]
            · rw [if_neg e, if_neg (by omega)])
          have hl1 := HO3.out (q : Int) k
          have hl2 := HO4.out ck kind pins (q : Int) p
          have hll : (occs ds cd (q : Int) k ++ occD ck kind pins (q : Int) p).length ≤ 100 := by rw [List.length_append]; omega
          have hlst : ∀ r, roleOf kind p = r → occs ds cd (q : Int) k ++ occD ck kind pins (q : Int) (p + 1) = occs ds cd (q : Int) k ++ occD ck kind pins (q : Int) p ++ [[ck, r]] := fun r hr => by rw [HSD.out, hr, if_pos rfl, ← List.append_assoc]
          obtain ⟨Y, hY⟩ : ∃ Y, occs ds cd (q : Int) k ++ occD ck kind pins (q : Int) p = Y := ⟨_, rfl⟩
          rw [hY] at hll hlst
          have HYY := Lib.hid hY
          have HLST := Lib.hid hlst
          clear hY hl1 hl2 hlst
          obtain ⟨rv, hrv, hrz, hro⟩ : ∃ rv : Value, wr.cell? ⟨N, q, none⟩ = some rv ∧ (∃ av cv, rv = .slice av Y.length cv) ∧ N < wr.heap.size ∧ (∀ g, rv.ownBlock = some g → N + 1 ≤ g ∧ g < wr.heap.size ∧ g ≠ D) := by
            obtain ⟨P, hPD, cs, vs, n0, n1, n2, n3, n4⟩ := HNQ.out
            obtain ⟨n5, n6⟩ := n3 q hqm
            (try dsimp only at n6)
            rw [HYY.out] at n6
            refine ⟨vs q, (n1.cell _).trans n5, n6.sized, n1.lt, fun g hg => ?_⟩
            obtain ⟨_, _, _, n7, _⟩ := n6
            obtain ⟨n8, n9, n10⟩ := n7 g hg
            exact ⟨n8, n9, fun e => n10 (e ▸ hPD)⟩
          obtain ⟨av, cv, rfl⟩ := hrz
          obtain ⟨lN, hown⟩ := hro
          have HOW := Lib.hid hown
          have HRV := Lib.hid hrv
          have ccell := cell_by' hb HCL.out
          have j1 : (0 : Int) ≤ (p : Int) := by omega
          have j2 : (p : Int) < (pins.length : Int) := by omega
          have j3 : (0 : Int) ≤ (q : Int) := by omega
          have j4 : (q : Int) < (m : Int) := by omega
          have j5 : (k : Int) < (cd.length : Int) := by omega
          clear hq' hpe p4 hqd hown
          obtain ⟨wo, hwo⟩ : ∃ y : World, y = wr := ⟨_, rfl⟩
          subst hwo
          by_cases h2 : kind = 2
          · have e1 : (kind == 2) = true := by simpa using h2
            have hr : roleOf kind p = 2 := by unfold roleOf; rw [if_pos h2]
            clear h2
            go_upto_region 13 with fail
            have hS : (fun w' : World => w'.cell? ⟨N, q, none⟩ = some (.slice av Y.length cv) ∧ w'.cell? ⟨w.heap.size + 1, 1, none⟩ = some (.slice (some ⟨cb, co, none⟩) cd.length e2) ∧ w'.cell? ⟨cb, co + k, none⟩ = some (.int .i64 ck)) { wo with drawn := wo.drawn + 1 } := ⟨hrv, qC 1, ccell⟩
            refine wp_region_any (by kernel_rfl) (wpAny_of_E (S := fun w' => w'.cell? ⟨N, q, none⟩ = some (.slice av Y.length cv) ∧ w'.cell? ⟨w.heap.size + 1, 1, none⟩ = some (.slice (some ⟨cb, co, none⟩) cd.length e2) ∧ w'.cell? ⟨cb, co + k, none⟩ = some (.int .i64 ck)) (l := 16) _ _ _ _ ?_)
            change wpAnyE _ _ _ _ _ _ _ _ _ wo.drew
            refine wpAnyE_take (i := 0) (v := ?_) rfl (by kernel_rfl) (fun _ _ _ h => h) (Or.inl ⟨by rfl, ?_⟩) hS ?_
            rotate_left
            · intro w hSw; (try dsimp only at hSw); go_simp; (try with_reducible rfl)
            try simp only [Act.put, List.setIfInBounds_toArray, List.set_cons_zero, List.set_cons_succ]
            refine wpAnyE_take (i := 1) (v := ?_) rfl (by kernel_rfl) (fun _ _ _ h => h) (Or.inl ⟨by rfl, ?_⟩) hS ?_
            rotate_left
            · intro w hSw; (try dsimp only at hSw); go_simp; (try with_reducible rfl)
            try simp only [Act.put, List.setIfInBounds_toArray, List.set_cons_zero, List.set_cons_succ]
            refine wpAnyE_take (i := 2) (v := ?_) rfl (by kernel_rfl) (fun _ _ _ h => h) (Or.inl ⟨by rfl, ?_⟩) hS ?_
            rotate_left
            · intro w hSw; (try dsimp only at hSw); go_simp; (try with_reducible rfl)
            try simp only [Act.put, List.setIfInBounds_toArray, List.set_cons_zero, List.set_cons_succ]
            refine wpAnyE_take (i := 3) (v := ?_) rfl (by kernel_rfl) (fun _ _ _ h => h) (Or.inl ⟨by rfl, ?_⟩) hS ?_
            rotate_left
            · intro w hSw; (try dsimp only at hSw); go_simp; (try with_reducible rfl)
            try simp only [Act.put, List.setIfInBounds_toArray, List.set_cons_zero, List.set_cons_succ]
            refine wpAnyE_take (i := 4) (v := ?_) rfl (by kernel_rfl) (fun _ _ _ h => h) (Or.inl ⟨by rfl, ?_⟩) hS ?_
            rotate_left
            · intro w hSw; (try dsimp only at hSw); go_simp; (try with_reducible rfl)
            try simp only [Act.put, List.setIfInBounds_toArray, List.set_cons_zero, List.set_cons_succ]
            refine wpAnyE_take (i := 5) (v := ?_) rfl (by kernel_rfl) (fun _ _ _ h => h) (Or.inl ⟨by rfl, ?_⟩) hS ?_
            rotate_left
            · intro w hSw; (try dsimp only at hSw); go_simp; (try with_reducible rfl)
            try simp only [Act.put, List.setIfInBounds_toArray, List.set_cons_zero, List.set_cons_succ]
            refine wpAnyE_take (i := 6) (v := ?_) rfl (by kernel_rfl) (fun _ _ _ h => h) (Or.inl ⟨by rfl, ?_⟩) hS ?_
            rotate_left
            · intro w hSw; (try dsimp only at hSw); go_simp; (try with_reducible rfl)
            try simp only [Act.put, List.setIfInBounds_toArray, List.set_cons_zero, List.set_cons_succ]
            refine wpAnyE_take (i := 7) (v := ?_) rfl (by kernel_rfl) (fun _ _ _ h => h) (Or.inl ⟨by rfl, ?_⟩) hS ?_
            rotate_left
            · intro w hSw; (try dsimp only at hSw); go_simp; (try with_reducible rfl)
            try simp only [Act.put, List.setIfInBounds_toArray, List.set_cons_zero, List.set_cons_succ]
            refine wpAnyE_take (i := 8) (v := ?_) rfl (by kernel_rfl) (fun _ _ _ h => h) (Or.inl ⟨by rfl, ?_⟩) hS ?_
            rotate_left
            · intro w hSw; (try dsimp only at hSw); go_simp; (try with_reducible rfl)
            try simp only [Act.put, List.setIfInBounds_toArray, List.set_cons_zero, List.set_cons_succ]
            refine wpAnyE_take (i := 9) (v := ?_) rfl (by kernel_rfl) (fun _ _ _ h => h) (Or.inl ⟨by rfl, ?_⟩) hS ?_
            rotate_left
            · intro w hSw; (try dsimp only at hSw); go_simp; (try with_reducible rfl)
            try simp only [Act.put, List.setIfInBounds_toArray, List.set_cons_zero, List.set_cons_succ]
            refine wpAnyE_take (i := 10) (v := ?_) rfl (by kernel_rfl) (fun _ _ _ h => h) (Or.inl ⟨by rfl, ?_⟩) hS ?_
            rotate_left
            · intro w hSw; (try dsimp only at hSw); go_simp; (try with_reducible rfl)
            try simp only [Act.put, List.setIfInBounds_toArray, List.set_cons_zero, List.set_cons_succ]
            refine wpAnyE_take (i := 11) (v := ?_) rfl (by kernel_rfl) (fun _ _ _ h => h) (Or.inl ⟨by rfl, ?_⟩) hS ?_
            rotate_left
            · intro w hSw; (try dsimp only at hSw); go_simp; (try with_reducible rfl)
            try simp only [Act.put, List.setIfInBounds_toArray, List.set_cons_zero, List.set_cons_succ]
            refine wpAnyE_one (k := 12) (by kernel_rfl) rfl (fun K hK => ?_)
            go_simp
            have hal2 : Below wo.heap.size wo (wo.drew.alloc (.cells #[.int .i64 ck, .int .i64 2] 2)) := (Below.refl _ wo).drew.alloc (Nat.le_refl _) _
            refine hK.out _ _ (fun _ => ⟨cell_by' hal2 hrv, cell_by' hal2 (qC 1), cell_by' hal2 ccell⟩) ?_
            try simp only [Act.put, List.setIfInBounds_toArray, List.set_cons_zero, List.set_cons_succ]
            refine wpAnyE_one (k := 13) (by kernel_rfl) rfl (fun K hK => ?_)
            go_simp
            have hal3 : Below wo.heap.size wo ((wo.drew.alloc (.cells #[.int .i64 ck, .int .i64 2] 2)).alloc (.cells #[.slice (some ⟨wo.heap.size, 0, none⟩) 2 2] 28)) := hal2.alloc (by simp) _
            refine hK.out _ _ (fun _ => ⟨cell_by' hal3 hrv, cell_by' hal3 (qC 1), cell_by' hal3 ccell⟩) ?_
            try simp only [Act.put, List.setIfInBounds_toArray, List.set_cons_zero, List.set_cons_succ]
            refine wpAnyE_one (k := 14) (by kernel_rfl) rfl (fun K hK => ?_)
            obtain ⟨P, hPD, HQ0⟩ := HNQ.out
            obtain ⟨cs, vs, n0, n1, n2, n3, n4⟩ := NetsQ.mark (D := wo.heap.size) hal3 HQ0 (Nat.le_refl _) (by simp; omega) (by omega)
            obtain ⟨n5, n6⟩ := n3 q hqm
            have hvq : vs q = (.slice av Y.length cv) := by
              have e1 := cell_by' hal3 hrv
              rw [n1.cell q, n5] at e1
              simpa using e1
            rw [hvq] at n5 n6
            (try dsimp only at n6)
            rw [HYY.out] at n6
            refine step_pushB (by rfl) _ _ (by rfl) (N + 1) _ (.slice av Y.length cv) Y (by rfl) n6 (wo.heap.size + 1) [ck, 2] _ wo.heap.size (by rfl) (Blk.new _ (by simp)) ((ownR_cells (zs := [ck, 2]) (Blk.new _ rfl) rfl (by simp)).new _) (.inr rfl) (by simp; omega) (by simp; omega) (fun k' hk' => (n0 k' hk').2) (by omega) ?_
            intro g5 c5 w5 hB5 hk5 ho5 hw5
            have hsz5 := hw5.size
            have hsz5' := hw5.size
            have hk5' := hk5
            have ho5' := ho5
            have hlst := HLST.out 2 hr
            simp only [World.size_alloc, World.size_drew] at hsz5 hk5 ho5
            have hown := HOW.out
            have hA5 : (Value.ownBlock (.slice av Y.length cv)) ≠ some w.heap.size := fun e => by have := hown _ e; omega
            have hC5 : (Value.ownBlock (.slice av Y.length cv)) ≠ some (w.heap.size + 1) := fun e => by have := hown _ e; omega
            have hN5 : (Value.ownBlock (.slice av Y.length cv)) ≠ some N := fun e => by have := hown _ e; omega
            have hD5 : (Value.ownBlock (.slice av Y.length cv)) ≠ some D := fun e => (hown _ e).2.2 rfl
            have hcb5 : (Value.ownBlock (.slice av Y.length cv)) ≠ some cb := fun e => by have := hown _ e; omega
            have hold : ∀ z, z < wo.heap.size → (Value.ownBlock (.slice av Y.length cv)) ≠ some z → w5.heap[z]? = wo.heap[z]? := fun z hz hne => (hk5 z (by omega) hne).trans (hal3.block z hz)
            have hrv5 : w5.cell? ⟨N, q, none⟩ = some (.slice av Y.length cv) := by
              rw [← hrv]
              simp only [World.cell?, hold N lN hN5]
            have kC5 : Blk w5 (w.heap.size + 1) _ 30 := (hold _ lC hC5).trans kC
            have kA5 : Blk w5 w.heap.size _ 27 := (hold _ kA.lt hA5).trans kA
            have kD5 : Blk w5 D _ 62 := (hold _ lD hD5).trans kD
            have ccell5 : w5.cell? ⟨cb, co + k, none⟩ = some (.int .i64 ck) := by
              rw [← ccell]
              simp only [World.cell?, hold cb (by have := hb.size; omega) hcb5]
            have hS5 : w5.cell? ⟨N, q, none⟩ = some (.slice av Y.length cv) ∧ w5.cell? ⟨w.heap.size + 1, 1, none⟩ = some (.slice (some ⟨cb, co, none⟩) cd.length e2) ∧ w5.cell? ⟨cb, co + k, none⟩ = some (.int .i64 ck) := ⟨hrv5, kC5.cell 1, ccell5⟩
            have hW5 : Within (N + 1) wo.heap.size wo w5 := ⟨hw5.os.trans hal3.os, hw5.tape.trans hal3.tape, hw5.output.trans hal3.output, by omega, fun z hz hne => hold z hz (fun e => by have := hown z e; omega)⟩
            have hb5 := hW5.below hb (by omega)
            have kN5 : Blk w5 N cs 38 := (hk5 N (by omega) hN5).trans n1
            have fN5 := kN5.free
            have lN5 := kN5.lt
            have hlen2 : (Y ++ [[ck, (2 : Int)]]).length = Y.length + 1 := by simp
            have hfin := NetsQ.grow (lst := (fun j : Nat => occs ds cd (j : Int) k ++ occD ck kind pins (j : Int) p)) (lst' := (fun j : Nat => occs ds cd (j : Int) k ++ occD ck kind pins (j : Int) (p + 1))) (g := g5) (cap := c5) n0 n1 n2 n3 n4 hqm (by omega) (by
              (try dsimp only)
              rw [hlst, hlen2]
              exact hB5) (by rw [hvq]; exact hk5') (by rw [hvq]; exact ho5') hsz5' (fun i hi => by
              (try dsimp only)
              rw [HSD.out, if_neg (fun e => hi e.symm), List.append_nil])
            (try dsimp only at hfin)
            rw [hlst, hlen2] at hfin
            have HFIN := Lib.hid hfin
            clear hB5 hk5 ho5 hk5' ho5' hsz5' hlst hlen2 hold n0 n1 n2 n3 n4 n5 n6 hvq hfin hown hrv5 ccell5 hrv
            refine hK.out _ _ (fun _ => hS5) ?_
            try simp only [Act.put, List.setIfInBounds_toArray, List.set_cons_zero, List.set_cons_succ]
            refine wpAnyE_one (k := 15) (by kernel_rfl) rfl (fun K hK => ?_)
            go_simp
            refine hK.out _ _ (fun _ => hS5) ?_
            try simp only [Act.put, List.setIfInBounds_toArray, List.set_cons_zero, List.set_cons_succ]
            refine wpAnyE_one (k := 16) (by kernel_rfl) rfl (fun K hK => ?_)
            go_simp
            refine hK.out _ _ (fun h => absurd rfl h) ?_
            refine wpAnyE_done (by kernel_rfl) ?_ _
            clear hS hS5
            go_wp2_with fail
            exact ⟨⟨p + 1, by omega, by go_num, Lib.hid ⟨_, .inl hPD, HFIN.out⟩, kD5.apart N q _ (by omega), kA5.apart N q _ (by omega), kC5.apart N q _ (by omega), hb5.setCell (by simp; omega) _⟩, by simp [intOf]; omega⟩
          · have e1 : (kind == 2) = false := by simpa using h2
            by_cases h3 : p = 0
            · have e2' : ((p : Int) == 0) = true := by simpa using h3
              have hr : roleOf kind p = 0 := by unfold roleOf; rw [if_neg h2]; omega
              clear h2 h3
              go_upto_region 13 with fail
              have hS : (fun w' : World => w'.cell? ⟨N, q, none⟩ = some (.slice av Y.length cv) ∧ w'.cell? ⟨w.heap.size + 1, 1, none⟩ = some (.slice (some ⟨cb, co, none⟩) cd.length e2) ∧ w'.cell? ⟨cb, co + k, none⟩ = some (.int .i64 ck)) { wo with drawn := wo.drawn + 1 } := ⟨hrv, qC 1, ccell⟩
              refine wp_region_any (by kernel_rfl) (wpAny_of_E (S := fun w' => w'.cell? ⟨N, q, none⟩ = some (.slice av Y.length cv) ∧ w'.cell? ⟨w.heap.size + 1, 1, none⟩ = some (.slice (some ⟨cb, co, none⟩) cd.length e2) ∧ w'.cell? ⟨cb, co + k, none⟩ = some (.int .i64 ck)) (l := 16) _ _ _ _ ?_)
              change wpAnyE _ _ _ _ _ _ _ _ _ wo.drew
              refine wpAnyE_take (i := 0) (v := ?_) rfl (by kernel_rfl) (fun _ _ _ h => h) (Or.inl ⟨by rfl, ?_⟩) hS ?_
              rotate_left
              · intro w hSw; (try dsimp only at hSw); go_simp; (try with_reducible rfl)
              try simp only [Act.put, List.setIfInBounds_toArray, List.set_cons_zero, List.set_cons_succ]
              refine wpAnyE_take (i := 1) (v := ?_) rfl (by kernel_rfl) (fun _ _ _ h => h) (Or.inl ⟨by rfl, ?_⟩) hS ?_
              rotate_left
              · intro w hSw; (try dsimp only at hSw); go_simp; (try with_reducible rfl)
              try simp only [Act.put, List.setIfInBounds_toArray, List.set_cons_zero, List.set_cons_succ]
              refine wpAnyE_take (i := 2) (v := ?_) rfl (by kernel_rfl) (fun _ _ _ h => h) (Or.inl ⟨by rfl, ?_⟩) hS ?_
              rotate_left
              · intro w hSw; (try dsimp only at hSw); go_simp; (try with_reducible rfl)
              try simp only [Act.put, List.setIfInBounds_toArray, List.set_cons_zero, List.set_cons_succ]
              refine wpAnyE_take (i := 3) (v := ?_) rfl (by kernel_rfl) (fun _ _ _ h => h) (Or.inl ⟨by rfl, ?_⟩) hS ?_
              rotate_left
              · intro w hSw; (try dsimp only at hSw); go_simp; (try with_reducible rfl)
              try simp only [Act.put, List.setIfInBounds_toArray, List.set_cons_zero, List.set_cons_succ]
              refine wpAnyE_take (i := 4) (v := ?_) rfl (by kernel_rfl) (fun _ _ _ h => h) (Or.inl ⟨by rfl, ?_⟩) hS ?_
              rotate_left
              · intro w hSw; (try dsimp only at hSw); go_simp; (try with_reducible rfl)
              try simp only [Act.put, List.setIfInBounds_toArray, List.set_cons_zero, List.set_cons_succ]
              refine wpAnyE_take (i := 5) (v := ?_) rfl (by kernel_rfl) (fun _ _ _ h => h) (Or.inl ⟨by rfl, ?_⟩) hS ?_
              rotate_left
              · intro w hSw; (try dsimp only at hSw); go_simp; (try with_reducible rfl)
              try simp only [Act.put, List.setIfInBounds_toArray, List.set_cons_zero, List.set_cons_succ]
              refine wpAnyE_take (i := 6) (v := ?_) rfl (by kernel_rfl) (fun _ _ _ h => h) (Or.inl ⟨by rfl, ?_⟩) hS ?_
              rotate_left
              · intro w hSw; (try dsimp only at hSw); go_simp; (try with_reducible rfl)
              try simp only [Act.put, List.setIfInBounds_toArray, List.set_cons_zero, List.set_cons_succ]
              refine wpAnyE_take (i := 7) (v := ?_) rfl (by kernel_rfl) (fun _ _ _ h => h) (Or.inl ⟨by rfl, ?_⟩) hS ?_
              rotate_left
              · intro w hSw; (try dsimp only at hSw); go_simp; (try with_reducible rfl)
              try simp only [Act.put, List.setIfInBounds_toArray, List.set_cons_zero, List.set_cons_succ]
              refine wpAnyE_take (i := 8) (v := ?_) rfl (by kernel_rfl) (fun _ _ _ h => h) (Or.inl ⟨by rfl, ?_⟩) hS ?_
              rotate_left
              · intro w hSw; (try dsimp only at hSw); go_simp; (try with_reducible rfl)
              try simp only [Act.put, List.setIfInBounds_toArray, List.set_cons_zero, List.set_cons_succ]
              refine wpAnyE_take (i := 9) (v := ?_) rfl (by kernel_rfl) (fun _ _ _ h => h) (Or.inl ⟨by rfl, ?_⟩) hS ?_
              rotate_left
              · intro w hSw; (try dsimp only at hSw); go_simp; (try with_reducible rfl)
              try simp only [Act.put, List.setIfInBounds_toArray, List.set_cons_zero, List.set_cons_succ]
              refine wpAnyE_take (i := 10) (v := ?_) rfl (by kernel_rfl) (fun _ _ _ h => h) (Or.inl ⟨by rfl, ?_⟩) hS ?_
              rotate_left
              · intro w hSw; (try dsimp only at hSw); go_simp; (try with_reducible rfl)
              try simp only [Act.put, List.setIfInBounds_toArray, List.set_cons_zero, List.set_cons_succ]
              refine wpAnyE_take (i := 11) (v := ?_) rfl (by kernel_rfl) (fun _ _ _ h => h) (Or.inl ⟨by rfl, ?_⟩) hS ?_
              rotate_left
              · intro w hSw; (try dsimp only at hSw); go_simp; (try with_reducible rfl)
              try simp only [Act.put, List.setIfInBounds_toArray, List.set_cons_zero, List.set_cons_succ]
              refine wpAnyE_one (k := 12) (by kernel_rfl) rfl (fun K hK => ?_)
              go_simp
              have hal2 : Below wo.heap.size wo (wo.drew.alloc (.cells #[.int .i64 ck, .int .i64 0] 2)) := (Below.refl _ wo).drew.alloc (Nat.le_refl _) _
              refine hK.out _ _ (fun _ => ⟨cell_by' hal2 hrv, cell_by' hal2 (qC 1), cell_by' hal2 ccell⟩) ?_
              try simp only [Act.put, List.setIfInBounds_toArray, List.set_cons_zero, List.set_cons_succ]
              refine wpAnyE_one (k := 13) (by kernel_rfl) rfl (fun K hK => ?_)
              go_simp
              have hal3 : Below wo.heap.size wo ((wo.drew.alloc (.cells #[.int .i64 ck, .int .i64 0] 2)).alloc (.cells #[.slice (some ⟨wo.heap.size, 0, none⟩) 2 2] 28)) := hal2.alloc (by simp) _
              refine hK.out _ _ (fun _ => ⟨cell_by' hal3 hrv, cell_by' hal3 (qC 1), cell_by' hal3 ccell⟩) ?_
              try simp only [Act.put, List.setIfInBounds_toArray, List.set_cons_zero, List.set_cons_succ]
              refine wpAnyE_one (k := 14) (by kernel_rfl) rfl (fun K hK => ?_)
              obtain ⟨P, hPD, HQ0⟩ := HNQ.out
              obtain ⟨cs, vs, n0, n1, n2, n3, n4⟩ := NetsQ.mark (D := wo.heap.size) hal3 HQ0 (Nat.le_refl _) (by simp; omega) (by omega)
              obtain ⟨n5, n6⟩ := n3 q hqm
              have hvq : vs q = (.slice av Y.length cv) := by
                have e1 := cell_by' hal3 hrv
                rw [n1.cell q, n5] at e1
                simpa using e1
              rw [hvq] at n5 n6
              (try dsimp only at n6)
              rw [HYY.out] at n6
              refine step_pushB (by rfl) _ _ (by rfl) (N + 1) _ (.slice av Y.length cv) Y (by rfl) n6 (wo.heap.size + 1) [ck, 0] _ wo.heap.size (by rfl) (Blk.new _ (by simp)) ((ownR_cells (zs := [ck, 0]) (Blk.new _ rfl) rfl (by simp)).new _) (.inr rfl) (by simp; omega) (by simp; omega) (fun k' hk' => (n0 k' hk').2) (by omega) ?_
              intro g5 c5 w5 hB5 hk5 ho5 hw5
              have hsz5 := hw5.size
              have hsz5' := hw5.size
              have hk5' := hk5
              have ho5' := ho5
              have hlst := HLST.out 0 hr
              simp only [World.size_alloc, World.size_drew] at hsz5 hk5 ho5
              have hown := HOW.out
              have hA5 : (Value.ownBlock (.slice av Y.length cv)) ≠ some w.heap.size := fun e => by have := hown _ e; omega
              have hC5 : (Value.ownBlock (.slice av Y.length cv)) ≠ some (w.heap.size + 1) := fun e => by have := hown _ e; omega
              have hN5 : (Value.ownBlock (.slice av Y.length cv)) ≠ some N := fun e => by have := hown _ e; omega
              have hD5 : (Value.ownBlock (.slice av Y.length cv)) ≠ some D := fun e => (hown _ e).2.2 rfl
              have hcb5 : (Value.ownBlock (.slice av Y.length cv)) ≠ some cb := fun e => by have := hown _ e; omega
              have hold : ∀ z, z < wo.heap.size → (Value.ownBlock (.slice av Y.length cv)) ≠ some z → w5.heap[z]? = wo.heap[z]? := fun z hz hne => (hk5 z (by omega) hne).trans (hal3.block z hz)
              have hrv5 : w5.cell? ⟨N, q, none⟩ = some (.slice av Y.length cv) := by
                rw [← hrv]
                simp only [World.cell?, hold N lN hN5]
              have kC5 : Blk w5 (w.heap.size + 1) _ 30 := (hold _ lC hC5).trans kC
              have kA5 : Blk w5 w.heap.size _ 27 := (hold _ kA.lt hA5).trans kA
              have kD5 : Blk w5 D _ 62 := (hold _ lD hD5).trans kD
              have ccell5 : w5.cell? ⟨cb, co + k, none⟩ = some (.int .i64 ck) := by
                rw [← ccell]
                simp only [World.cell?, hold cb (by have := hb.size; omega) hcb5]
              have hS5 : w5.cell? ⟨N, q, none⟩ = some (.slice av Y.length cv) ∧ w5.cell? ⟨w.heap.size + 1, 1, none⟩ = some (.slice (some ⟨cb, co, none⟩) cd.length e2) ∧ w5.cell? ⟨cb, co + k, none⟩ = some (.int .i64 ck) := ⟨hrv5, kC5.cell 1, ccell5⟩
              have hW5 : Within (N + 1) wo.heap.size wo w5 := ⟨hw5.os.trans hal3.os, hw5.tape.trans hal3.tape, hw5.output.trans hal3.output, by omega, fun z hz hne => hold z hz (fun e => by have := hown z e; omega)⟩
              have hb5 := hW5.below hb (by omega)
              have kN5 : Blk w5 N cs 38 := (hk5 N (by omega) hN5).trans n1
              have fN5 := kN5.free
              have lN5 := kN5.lt
              have hlen2 : (Y ++ [[ck, (0 : Int)]]).length = Y.length + 1 := by simp
              have hfin := NetsQ.grow (lst := (fun j : Nat => occs ds cd (j : Int) k ++ occD ck kind pins (j : Int) p)) (lst' := (fun j : Nat => occs ds cd (j : Int) k ++ occD ck kind pins (j : Int) (p + 1))) (g := g5) (cap := c5) n0 n1 n2 n3 n4 hqm (by omega) (by
                (try dsimp only)
                rw [hlst, hlen2]
                exact hB5) (by rw [hvq]; exact hk5') (by rw [hvq]; exact ho5') hsz5' (fun i hi => by
                (try dsimp only)
                rw [HSD.out, if_neg (fun e => hi e.symm), List.append_nil])
              (try dsimp only at hfin)
              rw [hlst, hlen2] at hfin
              have HFIN := Lib.hid hfin
              clear hB5 hk5 ho5 hk5' ho5' hsz5' hlst hlen2 hold n0 n1 n2 n3 n4 n5 n6 hvq hfin hown hrv5 ccell5 hrv
              refine hK.out _ _ (fun _ => hS5) ?_
              try simp only [Act.put, List.setIfInBounds_toArray, List.set_cons_zero, List.set_cons_succ]
              refine wpAnyE_one (k := 15) (by kernel_rfl) rfl (fun K hK => ?_)
              go_simp
              refine hK.out _ _ (fun _ => hS5) ?_
              try simp only [Act.put, List.setIfInBounds_toArray, List.set_cons_zero, List.set_cons_succ]
              refine wpAnyE_one (k := 16) (by kernel_rfl) rfl (fun K hK => ?_)
              go_simp
              refine hK.out _ _ (fun h => absurd rfl h) ?_
              refine wpAnyE_done (by kernel_rfl) ?_ _
              clear hS hS5
              go_wp2_with fail
              exact ⟨⟨p + 1, by omega, by go_num, Lib.hid ⟨_, .inl hPD, HFIN.out⟩, kD5.apart N q _ (by omega), kA5.apart N q _ (by omega), kC5.apart N q _ (by omega), hb5.setCell (by simp; omega) _⟩, by simp [intOf]; omega⟩
            · have e2' : ((p : Int) == 0) = false := by simpa using h3
              have hr : roleOf kind p = 1 := by unfold roleOf; rw [if_neg h2]; omega
              clear h2 h3
              go_upto_region 13 with fail
              have hS : (fun w' : World => w'.cell? ⟨N, q, none⟩ = some (.slice av Y.length cv) ∧ w'.cell? ⟨w.heap.size + 1, 1, none⟩ = some (.slice (some ⟨cb, co, none⟩) cd.length e2) ∧ w'.cell? ⟨cb, co + k, none⟩ = some (.int .i64 ck)) { wo with drawn := wo.drawn + 1 } := ⟨hrv, qC 1, ccell⟩
              refine wp_region_any (by kernel_rfl) (wpAny_of_E (S := fun w' => w'.cell? ⟨N, q, none⟩ = some (.slice av Y.length cv) ∧ w'.cell? ⟨w.heap.size + 1, 1, none⟩ = some (.slice (some ⟨cb, co, none⟩) cd.length e2) ∧ w'.cell? ⟨cb, co + k, none⟩ = some (.int .i64 ck)) (l := 16) _ _ _ _ ?_)
              change wpAnyE _ _ _ _ _ _ _ _ _ wo.drew
              refine wpAnyE_take (i := 0) (v := ?_) rfl (by kernel_rfl) (fun _ _ _ h => h) (Or.inl ⟨by rfl, ?_⟩) hS ?_
              rotate_left
              · intro w hSw; (try dsimp only at hSw); go_simp; (try with_reducible rfl)
              try simp only [Act.put, List.setIfInBounds_toArray, List.set_cons_zero, List.set_cons_succ]
              refine wpAnyE_take (i := 1) (v := ?_) rfl (by kernel_rfl) (fun _ _ _ h => h) (Or.inl ⟨by rfl, ?_⟩) hS ?_
              rotate_left
              · intro w hSw; (try dsimp only at hSw); go_simp; (try with_reducible rfl)
              try simp only [Act.put, List.setIfInBounds_toArray, List.set_cons_zero, List.set_cons_succ]
              refine wpAnyE_take (i := 2) (v := ?_) rfl (by kernel_rfl) (fun _ _ _ h => h) (Or.inl ⟨by rfl, ?_⟩) hS ?_
              rotate_left
              · intro w hSw; (try dsimp only at hSw); go_simp; (try with_reducible rfl)
              try simp only [Act.put, List.setIfInBounds_toArray, List.set_cons_zero, List.set_cons_succ]
              refine wpAnyE_take (i := 3) (v := ?_) rfl (by kernel_rfl) (fun _ _ _ h => h) (Or.inl ⟨by rfl, ?_⟩) hS ?_
              rotate_left
              · intro w hSw; (try dsimp only at hSw); go_simp; (try with_reducible rfl)
              try simp only [Act.put, List.setIfInBounds_toArray, List.set_cons_zero, List.set_cons_succ]
              refine wpAnyE_take (i := 4) (v := ?_) rfl (by kernel_rfl) (fun _ _ _ h => h) (Or.inl ⟨by rfl, ?_⟩) hS ?_
              rotate_left
              · intro w hSw; (try dsimp only at hSw); go_simp; (try with_reducible rfl)
              try simp only [Act.put, List.setIfInBounds_toArray, List.set_cons_zero, List.set_cons_succ]
              refine wpAnyE_take (i := 5) (v := ?_) rfl (by kernel_rfl) (fun _ _ _ h => h) (Or.inl ⟨by rfl, ?_⟩) hS ?_
              rotate_left
              · intro w hSw; (try dsimp only at hSw); go_simp; (try with_reducible rfl)
              try simp only [Act.put, List.setIfInBounds_toArray, List.set_cons_zero, List.set_cons_succ]
              refine wpAnyE_take (i := 6) (v := ?_) rfl (by kernel_rfl) (fun _ _ _ h => h) (Or.inl ⟨by rfl, ?_⟩) hS ?_
              rotate_left
              · intro w hSw; (try dsimp only at hSw); go_simp; (try with_reducible rfl)
              try simp only [Act.put, List.setIfInBounds_toArray, List.set_cons_zero, List.set_cons_succ]
              refine wpAnyE_take (i := 7) (v := ?_) rfl (by kernel_rfl) (fun _ _ _ h => h) (Or.inl ⟨by rfl, ?_⟩) hS ?_
              rotate_left
              · intro w hSw; (try dsimp only at hSw); go_simp; (try with_reducible rfl)
              try simp only [Act.put, List.setIfInBounds_toArray, List.set_cons_zero, List.set_cons_succ]
              refine wpAnyE_take (i := 8) (v := ?_) rfl (by kernel_rfl) (fun _ _ _ h => h) (Or.inl ⟨by rfl, ?_⟩) hS ?_
              rotate_left
              · intro w hSw; (try dsimp only at hSw); go_simp; (try with_reducible rfl)
              try simp only [Act.put, List.setIfInBounds_toArray, List.set_cons_zero, List.set_cons_succ]
              refine wpAnyE_take (i := 9) (v := ?_) rfl (by kernel_rfl) (fun _ _ _ h => h) (Or.inl ⟨by rfl, ?_⟩) hS ?_
              rotate_left
              · intro w hSw; (try dsimp only at hSw); go_simp; (try with_reducible rfl)
              try simp only [Act.put, List.setIfInBounds_toArray, List.set_cons_zero, List.set_cons_succ]
              refine wpAnyE_take (i := 10) (v := ?_) rfl (by kernel_rfl) (fun _ _ _ h => h) (Or.inl ⟨by rfl, ?_⟩) hS ?_
              rotate_left
              · intro w hSw; (try dsimp only at hSw); go_simp; (try with_reducible rfl)
              try simp only [Act.put, List.setIfInBounds_toArray, List.set_cons_zero, List.set_cons_succ]
              refine wpAnyE_take (i := 11) (v := ?_) rfl (by kernel_rfl) (fun _ _ _ h => h) (Or.inl ⟨by rfl, ?_⟩) hS ?_
              rotate_left
              · intro w hSw; (try dsimp only at hSw); go_simp; (try with_reducible rfl)
              try simp only [Act.put, List.setIfInBounds_toArray, List.set_cons_zero, List.set_cons_succ]
              refine wpAnyE_one (k := 12) (by kernel_rfl) rfl (fun K hK => ?_)
              go_simp
              have hal2 : Below wo.heap.size wo (wo.drew.alloc (.cells #[.int .i64 ck, .int .i64 1] 2)) := (Below.refl _ wo).drew.alloc (Nat.le_refl _) _
              refine hK.out _ _ (fun _ => ⟨cell_by' hal2 hrv, cell_by' hal2 (qC 1), cell_by' hal2 ccell⟩) ?_
              try simp only [Act.put, List.setIfInBounds_toArray, List.set_cons_zero, List.set_cons_succ]
              refine wpAnyE_one (k := 13) (by kernel_rfl) rfl (fun K hK => ?_)
              go_simp
              have hal3 : Below wo.heap.size wo ((wo.drew.alloc (.cells #[.int .i64 ck, .int .i64 1] 2)).alloc (.cells #[.slice (some ⟨wo.heap.size, 0, none⟩) 2 2] 28)) := hal2.alloc (by simp) _
              refine hK.out _ _ (fun _ => ⟨cell_by' hal3 hrv, cell_by' hal3 (qC 1), cell_by' hal3 ccell⟩) ?_
              try simp only [Act.put, List.setIfInBounds_toArray, List.set_cons_zero, List.set_cons_succ]
              refine wpAnyE_one (k := 14) (by kernel_rfl) rfl (fun K hK => ?_)
              obtain ⟨P, hPD, HQ0⟩ := HNQ.out
              obtain ⟨cs, vs, n0, n1, n2, n3, n4⟩ := NetsQ.mark (D := wo.heap.size) hal3 HQ0 (Nat.le_refl _) (by simp; omega) (by omega)
              obtain ⟨n5, n6⟩ := n3 q hqm
              have hvq : vs q = (.slice av Y.length cv) := by
                have e1 := cell_by' hal3 hrv
                rw [n1.cell q, n5] at e1
                simpa using e1
              rw [hvq] at n5 n6
              (try dsimp only at n6)
              rw [HYY.out] at n6
              refine step_pushB (by rfl) _ _ (by rfl) (N + 1) _ (.slice av Y.length cv) Y (by rfl) n6 (wo.heap.size + 1) [ck, 1] _ wo.heap.size (by rfl) (Blk.new _ (by simp)) ((ownR_cells (zs := [ck, 1]) (Blk.new _ rfl) rfl (by simp)).new _) (.inr rfl) (by simp; omega) (by simp; omega) (fun k' hk' => (n0 k' hk').2) (by omega) ?_
              intro g5 c5 w5 hB5 hk5 ho5 hw5
              have hsz5 := hw5.size
              have hsz5' := hw5.size
              have hk5' := hk5
              have ho5' := ho5
              have hlst := HLST.out 1 hr
              simp only [World.size_alloc, World.size_drew] at hsz5 hk5 ho5
              have hown := HOW.out
              have hA5 : (Value.ownBlock (.slice av Y.length cv)) ≠ some w.heap.size := fun e => by have := hown _ e; omega
              have hC5 : (Value.ownBlock (.slice av Y.length cv)) ≠ some (w.heap.size + 1) := fun e => by have := hown _ e; omega
              have hN5 : (Value.ownBlock (.slice av Y.length cv)) ≠ some N := fun e => by have := hown _ e; omega
              have hD5 : (Value.ownBlock (.slice av Y.length cv)) ≠ some D := fun e => (hown _ e).2.2 rfl
              have hcb5 : (Value.ownBlock (.slice av Y.length cv)) ≠ some cb := fun e => by have := hown _ e; omega
              have hold : ∀ z, z < wo.heap.size → (Value.ownBlock (.slice av Y.length cv)) ≠ some z → w5.heap[z]? = wo.heap[z]? := fun z hz hne => (hk5 z (by omega) hne).trans (hal3.block z hz)
              have hrv5 : w5.cell? ⟨N, q, none⟩ = some (.slice av Y.length cv) := by
                rw [← hrv]
                simp only [World.cell?, hold N lN hN5]
              have kC5 : Blk w5 (w.heap.size + 1) _ 30 := (hold _ lC hC5).trans kC
              have kA5 : Blk w5 w.heap.size _ 27 := (hold _ kA.lt hA5).trans kA
              have kD5 : Blk w5 D _ 62 := (hold _ lD hD5).trans kD
              have ccell5 : w5.cell? ⟨cb, co + k, none⟩ = some (.int .i64 ck) := by
                rw [← ccell]
                simp only [World.cell?, hold cb (by have := hb.size; omega) hcb5]
              have hS5 : w5.cell? ⟨N, q, none⟩ = some (.slice av Y.length cv) ∧ w5.cell? ⟨w.heap.size + 1, 1, none⟩ = some (.slice (some ⟨cb, co, none⟩) cd.length e2) ∧ w5.cell? ⟨cb, co + k, none⟩ = some (.int .i64 ck) := ⟨hrv5, kC5.cell 1, ccell5⟩
              have hW5 : Within (N + 1) wo.heap.size wo w5 := ⟨hw5.os.trans hal3.os, hw5.tape.trans hal3.tape, hw5.output.trans hal3.output, by omega, fun z hz hne => hold z hz (fun e => by have := hown z e; omega)⟩
              have hb5 := hW5.below hb (by omega)
              have kN5 : Blk w5 N cs 38 := (hk5 N (by omega) hN5).trans n1
              have fN5 := kN5.free
              have lN5 := kN5.lt
              have hlen2 : (Y ++ [[ck, (1 : Int)]]).length = Y.length + 1 := by simp
              have hfin := NetsQ.grow (lst := (fun j : Nat => occs ds cd (j : Int) k ++ occD ck kind pins (j : Int) p)) (lst' := (fun j : Nat => occs ds cd (j : Int) k ++ occD ck kind pins (j : Int) (p + 1))) (g := g5) (cap := c5) n0 n1 n2 n3 n4 hqm (by omega) (by
                (try dsimp only)
                rw [hlst, hlen2]
                exact hB5) (by rw [hvq]; exact hk5') (by rw [hvq]; exact ho5') hsz5' (fun i hi => by
                (try dsimp only)
                rw [HSD.out, if_neg (fun e => hi e.symm), List.append_nil])
              (try dsimp only at hfin)
              rw [hlst, hlen2] at hfin
              have HFIN := Lib.hid hfin
              clear hB5 hk5 ho5 hk5' ho5' hsz5' hlst hlen2 hold n0 n1 n2 n3 n4 n5 n6 hvq hfin hown hrv5 ccell5 hrv
              refine hK.out _ _ (fun _ => hS5) ?_
              try simp only [Act.put, List.setIfInBounds_toArray, List.set_cons_zero, List.set_cons_succ]
              refine wpAnyE_one (k := 15) (by kernel_rfl) rfl (fun K hK => ?_)
              go_simp
              refine hK.out _ _ (fun _ => hS5) ?_
              try simp only [Act.put, List.setIfInBounds_toArray, List.set_cons_zero, List.set_cons_succ]
              refine wpAnyE_one (k := 16) (by kernel_rfl) rfl (fun K hK => ?_)
              go_simp
              refine hK.out _ _ (fun h => absurd rfl h) ?_
              refine wpAnyE_done (by kernel_rfl) ?_ _
              clear hS hS5
              go_wp2_with fail
              exact ⟨⟨p + 1, by omega, by go_num, Lib.hid ⟨_, .inl hPD, HFIN.out⟩, kD5.apart N q _ (by omega), kA5.apart N q _ (by omega), kC5.apart N q _ (by omega), hb5.setCell (by simp; omega) _⟩, by simp [intOf]; omega⟩
        · obtain rfl : p = pins.length := by omega
          go_wp2
          refine ⟨⟨k + 1, by omega, by go_num, Lib.hid ?_, kA, kC, hb⟩, by simp [intOf]; omega⟩
          obtain ⟨P, _, hQ⟩ := HNQ.out
          have e : (fun j : Nat => occs ds cd (j : Int) (k + 1)) = (fun j : Nat => occs ds cd (j : Int) k ++ occD ck kind pins (j : Int) pins.length) := by
            funext j
            rw [HST.out]
          rw [e]
          exact ⟨P, hQ⟩
    · obtain rfl : k = ds.length := by omega
      obtain ⟨wo, hwo⟩ : ∃ y : World, y = wr := ⟨_, rfl⟩
      subst hwo
      obtain ⟨P, cs, vs, n0, n1, n2, n3, n4⟩ := HNI.out
      obtain ⟨E, hE⟩ : ∃ E, wo.heap.size = E := ⟨_, rfl⟩
      have HOW : Hid (∀ i, i < m → ∀ g, (vs i).ownBlock = some g → N + 1 ≤ g ∧ g < E) := Lib.hid (fun i hi g hg => by
        obtain ⟨_, _, _, n7, _⟩ := (n3 i hi).2
        have := n7 g hg
        omega)
      have HP0 : Hid (∀ z, P z → N + 1 ≤ z ∧ z < E) := Lib.hid (fun z hz => by have := n0 z hz; omega)
      have HCS : Hid (∀ i, i < m → cs[i]? = some (vs i)) := Lib.hid (fun i hi => (n3 i hi).1)
      have HRW : Hid (∀ i, i < m → RowE wo (N + 1) P (vs i) (occs ds cd (i : Int) ds.length)) := Lib.hid (fun i hi => (n3 i hi).2)
      have HDJ := Lib.hid n4
      have lN := n1.lt
      have lC := kC.lt
      clear n0 n2 n3 n4 HNI qA lA
      have hEE := hE
      clear hlt hk
      go_wp2
      (try rw [hE])
      obtain ⟨wE, hwE⟩ : ∃ wE, wE = wo.alloc (.cells #[] 28) := ⟨_, rfl⟩
      have hal : Below wo.heap.size wo wE := by rw [hwE]; exact (Below.refl _ wo).alloc (Nat.le_refl _) _
      have kE : Blk wE E #[] 28 := by rw [hwE]; exact Blk.new _ hE.symm
      have hsE : wE.heap.size = E + 1 := by rw [hwE]; simp [hE]
      have hbE := below_on hal hb
      have kNE : Blk wE N cs 38 := Blk.by hal n1
      have kCE := Blk.by hal kC
      have HRE : Hid (∀ i, 0 ≤ i → i < m → RowE wE (N + 1) P (vs i) (occs ds cd (i : Int) ds.length)) := Lib.hid (fun i _ hi => (HRW.out i hi).off hal.size (fun z hz _ => hal.block z hz))
      have HBE : Hid (BldL wE E (E + 1) (.slice (some ⟨E, 0, none⟩) 0 0) (Z.take 0)) := by
        apply Lib.hid
        rw [List.take_zero]
        exact BldL.lit kE (Nat.le_refl _) (by omega) (by omega)
      rw [← hwE]
      clear hwE kE hal n1 kC kA HRW hb
      go_loopw [11, 61] (fun u i wr2 => ∃ (j h2 : Nat), j ≤ m ∧ i = .int .i64 j ∧ Hid (BldL wr2 E h2 u (Z.take j)) ∧ (E < h2 ∧ E < wr2.heap.size) ∧ Hid (∀ i, j ≤ i → i < m → RowE wr2 (N + 1) P (vs i) (occs ds cd (i : Int) ds.length)) ∧ Blk wr2 N cs 38 ∧ Blk wr2 (w.heap.size + 1) #[.slice b1 cn.length e1, .slice b2 cd.length e2] 30 ∧ Below w.heap.size w wr2) (fun _ i _ => m - (intOf i).toNat)
      case atStart => exact ⟨0, E + 1, Nat.zero_le _, rfl, HBE, ⟨by omega, by omega⟩, HRE, kNE, kCE, hbE⟩
      case round =>
        clear HBE HRE kNE kCE hbE hsE
        obtain ⟨j, h2, hj, rfl, HBd, ⟨hh2, hE2⟩, HRE, kN, kC, hb⟩ := hrel
        obtain ⟨ad, cd', rfl⟩ := HBd.out.sized
        have hml : (Z.take j).length = j := by rw [List.length_take, HZL.out]; omega
        rw [hml] at HBd ⊢
        have HML := Lib.hid hml
        have hIs := HBd.out.1
        have qN := kN.cell
        clear hml
        by_cases hlj : j < m
        · have hcj := HCS.out j hlj
          have hNj : wr.cell? ⟨N, j, none⟩ = some (vs j) := (qN j).trans hcj
          have hrow := HRE.out j (Nat.le_refl _) hlj
          obtain ⟨av, cv, hvj⟩ := hrow.sized
          have hol := HO3.out (j : Int) ds.length
          have j1 : (0 : Int) ≤ (j : Int) := by omega
          have j2 : (j : Int) < (m : Int) := by omega
          obtain ⟨col, hcol⟩ : ∃ col, cn[j]? = some col := ⟨cn[j]'(by omega), List.getElem?_eq_getElem _⟩
          have hcol' : nmOf cn (j : Int) = col := by simp [nmOf, List.getD_eq_getElem?_getD, hcol]
          rcases HC1.out with ⟨_, _, _, e3⟩ | ⟨nb, no, nc, hne, _, _, c4⟩
          · rw [e3] at hcol; simp at hcol
          obtain ⟨rfl, rfl⟩ : b1 = some ⟨nb, no, none⟩ ∧ e1 = nc := by simpa using hne
          have hcell := c4 j col hcol
          have HCOL := Lib.hid hcol'
          have HCEL := Lib.hid hcell
          have hS := HSR.out (N + 1) P (vs j) (occs ds cd (j : Int) ds.length) wr hrow (by omega)
          have HVJ := Lib.hid hvj
          rw [hvj] at hNj hS
          have HSS := Lib.hid hS
          have hcnl : (j : Int) < (cn.length : Int) := by omega
          clear hcol hcol' c4 hcell hS hrow hvj hcj qN
          go_wp2_with fail
          refine HSS.out.mono ?_
          rintro e w3 ⟨rfl, S, hperm, hsort, hRow, hold3, hW3⟩
          have hs3 := hW3.size
          have hVJ := HVJ.out
          have hown : ∀ g, (Value.slice av (occs ds cd (j : Int) ds.length).length cv).ownBlock = some g → N + 1 ≤ g ∧ g < E := by rw [← hVJ]; exact HOW.out j hlj
          have kN3 : Blk w3 N cs 38 := (hold3 N kN.lt (fun e => by have := hown _ e; omega)).trans kN
          have kC3 : Blk w3 (w.heap.size + 1) #[.slice (some ⟨nb, no, none⟩) cn.length e1, .slice b2 cd.length e2] 30 := (hold3 _ kC.lt (fun e => by have := hown _ e; omega)).trans kC
          have hb3 : Below w.heap.size w w3 := hW3.below hb (by omega)
          have HB3 : Hid (BldL w3 E h2 (.slice ad j cd') (Z.take j)) := Lib.hid (HBd.out.same hs3 (fun z z1 z2 => hold3 z (by omega) (fun e => by have := hown z e; omega)))
          have hlen := hperm.length_eq
          obtain ⟨hz1, hz2⟩ := HZS.out j S hperm hsort
          rw [HCOL.out] at hz1
          have hzl := HZN.out j
          have HZ1 := Lib.hid hz1
          have HZ2 := Lib.hid hz2
          have hRow' := hRow
          have HROW := Lib.hid hRow'
          have hfl : ([[col]] ++ S).flatten = X j := by rw [← hz1]; simp
          have hXp : 0 < (X j).length := by rw [← hfl]; simp
          have HCL := Lib.hid (fun sv w h => HCC.out ([[col]] ++ S) sv w h (by rw [hfl]; exact hXp) (by rw [hfl]; omega) (by simp; omega) (fun o ho => by
            rcases List.mem_append.1 ho with ho | ho
            · simp at ho; subst ho; simp
            · exact hz2 o ho))
          rw [hfl] at HCL
          have HRE3 : Hid (∀ i, j + 1 ≤ i → i < m → RowE w3 (N + 1) P (vs i) (occs ds cd (i : Int) ds.length)) := Lib.hid (fun i hi him => (HRE.out i (by omega) him).off hs3 (fun z hz hor => hold3 z hz (fun e => by
            rcases hor with hp | ho
            · rw [← hVJ] at e
              obtain ⟨_, _, _, n7, _⟩ := HRE.out j (Nat.le_refl _) hlj
              exact (n7 z e).2.2 hp
            · rw [← hVJ] at e
              exact HDJ.out i j him hlj (by omega) z ho e)))
          have ccell := cell_by' hb3 HCEL.out
          have qC := kC3.cell
          have HOWN := Lib.hid hown
          have hSl : S.length ≤ 100 := by omega
          clear hperm hsort hRow' hRow hfl hlen hold3 hW3 hz1 hz2 HSS HBd HRE kN kC hb hown hVJ
          go_wp2_with (refine list_append1 (by rfl) _ _ (by rfl) w3.heap.size w3.heap.size (w3.heap.size + 1) [col] _ (by rfl) (Blk.new _ (by simp)) ((ownR_cells (zs := [col]) (Blk.new _ rfl) rfl (by simp)).new _) (by simp; omega) (Nat.le_refl _) (by omega) (by omega) (N + 1) P _ S (by rfl) (HROW.out.two _ _) (fun g e => by have := HOWN.out g e; omega) (fun z hz => by have := HP0.out z hz; omega) (by omega) ?_; intro a4 c4 w4 hL4 hb4; have HL4 := Lib.hid hL4; clear hL4)
          refine (HCL.out _ _ HL4.out).mono ?_
          rintro e w6 ⟨v6, rfl, hO6, hb6⟩
          obtain ⟨f6, ⟨f61, f62⟩, hp6⟩ := hO6.pick' hXp
          have HP6 := Lib.hid hp6
          obtain ⟨a6, c6, rfl⟩ := hO6.sl.len
          have hs6 := hb6.size
          have hs4 := hb4.size
          simp only [World.size_alloc] at hs4
          have hb36 : Below w3.heap.size w3 w6 := (hb4.trans (hb6.mono (by omega))) |> fun h => (below_two w3 _ _).trans h
          have HB6 : Hid (BldL w6 E h2 (.slice ad j cd') (Z.take j)) := Lib.hid (HB3.out.by hb36)
          clear hO6 hp6 hb6 hb4
          go_wp2_with (refine list_pushL (by rfl) _ _ (by rfl) E h2 (.slice ad j cd') (Z.take j) (by rfl) (HB6.out.by (by ((repeat (first | (with_reducible exact Below.refl _ _) | (with_reducible refine below_drewN ?_ _) | (with_reducible refine Below.drew ?_) | (with_reducible refine below_al ?_ _) | (with_reducible refine below_on (by assumption) ?_) | ((with_reducible refine Below.setCell ?_ ?_ _); rotate_left; focus (first | omega | (simp; done) | (simp; omega))) | (with_reducible assumption))); done))) w6.heap.size (X j) _ f6 (by rfl) (Blk.new _ rfl) (HP6.out.new _) (by omega) (by omega) (by simp; omega) (by rw [HML.out]; omega) ?_; intro a7 c7 w7 hB7 hw7; have HB7 := Lib.hid hB7; rw [HML.out]; clear hB7)
          have hs7 := hw7.size
          simp only [World.size_alloc] at hs7
          have hold7 : ∀ z, z < E → w7.heap[z]? = w3.heap[z]? := fun z hz => (hw7.block z (by simp; omega) (.inl hz)).trans ((((Below.refl _ w6).alloc (Nat.le_refl _) _).block z (by omega)).trans (hb36.block z (by omega)))
          refine ⟨⟨j + 1, w7.heap.size, by omega, by go_num, Lib.hid ?_, ⟨by omega, by omega⟩, Lib.hid (fun i hi him => (HRE3.out i hi him).off (by omega) (fun z hz hor => hold7 z ?_)), (hold7 N (by omega)).trans kN3, (hold7 _ (by omega)).trans kC3, hw7.below (below_on ((Below.refl _ w6).alloc (Nat.le_refl _) _) (below_on hb36 hb3)) (by omega)⟩, by simp [intOf]; omega⟩
          · rw [HZT.out j hlj]
            have := HB7.out
            rw [HML.out] at this
            exact this
          · rcases hor with hp | ho
            · exact (HP0.out z hp).2
            · exact (HOW.out i him z ho).2
        · obtain rfl : m = j := by omega
          have hBl := HBd.out
          rw [List.take_of_length_le (by rw [HZL.out]; exact Nat.le_refl _)] at hBl
          have HBL := Lib.hid (hBl.wide (lo' := w.heap.size) (hi' := wr.heap.size) (by omega) hIs (Nat.le_refl _))
          clear hBl HBd HRE
          go_wp2
          go_ret
          exact ⟨_, rfl, HBL.out, hb⟩

end Go.Proofs.YtpaiiaajbojmnaaGreat

/- The program's NetSignature. -/
namespace Go.Proofs.YtpaiiaajbojmnaaGreat
open Go.RowKit
set_option linter.unusedVariables false
set_option linter.unusedSimpArgs false

theorem implNets_any (x : Nl) (c : List Int × List Int) (m : Nat) (v u : Value) (w : World) (h : NlV w v x) (hc : CoV w u c) (hm : x.nets = m) (hm24 : m ≤ 24) (hl : x.ds.length ≤ 24) (hcn : c.1.length = m) (hcd : c.2.length = x.ds.length)
    (hpn : ∀ d ∈ x.ds, d.pins.length ≤ 3 ∧ ∀ p ∈ d.pins, 0 ≤ p ∧ p < m) (hO : ∀ net, ∀ o ∈ occs x.ds c.2 net x.ds.length, ∃ q r : Nat, q < 24 ∧ r < 3 ∧ o = [(q : Int), (r : Int)]) :
    Calls Tryz.prog 29 #[v, u] w fun e w' => ∃ v', e = .returned v' ∧ BldL w' w.heap.size w'.heap.size v' ((List.range m).map fun j : Nat => netL' x c (j : Int)) ∧ Below w.heap.size w w' :=
  implNet_any x c m v u w h hc hm hm24 hl hcn hcd hpn hO (Lib.hid (fun L P v ls w h hn => sortRow_any L P v ls w h hn))
theorem BldL.at {w : World} {lo hi : Nat} {v : Value} {ls : List (List Int)} (h : BldL w lo hi v ls) (i : Nat) (x : List Int) (hx : ls[i]? = some x) :
    ∃ g cap s fi, v = .slice (some ⟨g, 0, none⟩) ls.length cap ∧ w.cell? ⟨g, i, none⟩ = some s ∧ OwnR w fi (fi + 1) s x ∧ lo ≤ fi ∧ fi < hi := by
  obtain ⟨hs, vs, f, ⟨hlen, h1⟩, h2, h3, h4⟩ := h
  have hi' : i < ls.length := (List.getElem?_eq_some_iff.1 hx).1
  rcases h1 with ⟨h1, hn⟩ | ⟨g, cap, cur, e1, e2, e3, e4, e5, e6, e7⟩
  · omega
  · obtain ⟨s, hsv⟩ : ∃ s, vs[i]? = some s := ⟨vs[i]'(by omega), List.getElem?_eq_getElem (by omega)⟩
    have h6 := hsv
    rw [← e7, List.getElem?_take_of_lt (by omega)] at h6
    have hB : Blk w g cur 28 := e3
    obtain ⟨a, b, c⟩ := h4 i x s hx hsv
    exact ⟨g, cap, s, f i, e1, by rw [hB.cell]; simpa using h6, a, b.1, b.2⟩

theorem length_netS (x : Nl) (c : List Int × List Int) (k : Int) : (netS x c k).length ≤ 1048576 := by
  unfold netS
  split
  · rename_i h
    obtain ⟨f1, f2, f3, f4⟩ := coB_facts h.1
    obtain ⟨g1, g2, g3, g4⟩ := coB_nets h.1
    have := cTo_len g3 c.2 k 24
    unfold netL'
    rw [List.length_append]
    simp
    omega
  · simp
end Go.Proofs.YtpaiiaajbojmnaaGreat
