/- Contracts and plain laws, part 15, for the statement's proof. -/
import Derived.Test.YtehmiekendkjmaaGreatPkMtLaw14
import Derived.Deep.DeepCutAuto
import Derived.Deep.CutRange
namespace Go.Proofs.YtehmiekendkjmaaGreat
open Go.RowKit
set_option linter.unusedVariables false
set_option linter.unusedSimpArgs false
noncomputable def xplR (x y : Nl) : Int × Int × Int :=
  if x.nets = y.nets then (if x.ds.length = y.ds.length then (if namD x.ps y.ps = -1 then (if sizD x.ds y.ds = -1 then (if colD (refNet x).1.1 (refNet y).1.1 = -1 then (if colD (refNet x).1.2 (refNet y).1.2 = -1 then (0, 0, 0) else (6, colD (refNet x).1.2 (refNet y).1.2, 0)) else (5, colD (refNet x).1.1 (refNet y).1.1, 0)) else (4, sizD x.ds y.ds, 0)) else (3, namD x.ps y.ps, 0)) else (2, (x.ds.length : Int), (y.ds.length : Int))) else (1, x.nets, y.nets)
theorem xpl_1 {x y : Nl} (h : ¬ x.nets = y.nets) : xplR x y = (1, x.nets, y.nets) := by unfold xplR; rw [if_neg h]
theorem xpl_2 {x y : Nl} (h : x.nets = y.nets) (h2 : ¬ x.ds.length = y.ds.length) : xplR x y = (2, (x.ds.length : Int), (y.ds.length : Int)) := by unfold xplR; rw [if_pos h, if_neg h2]
theorem xpl_3 {x y : Nl} (h : x.nets = y.nets) (h2 : x.ds.length = y.ds.length) (h3 : ¬ namD x.ps y.ps = -1) : xplR x y = (3, namD x.ps y.ps, 0) := by unfold xplR; rw [if_pos h, if_pos h2, if_neg h3]
theorem xpl_4 {x y : Nl} (h : x.nets = y.nets) (h2 : x.ds.length = y.ds.length) (h3 : namD x.ps y.ps = -1) (h4 : ¬ sizD x.ds y.ds = -1) : xplR x y = (4, sizD x.ds y.ds, 0) := by unfold xplR; rw [if_pos h, if_pos h2, if_pos h3, if_neg h4]
theorem xpl_5 {x y : Nl} (h : x.nets = y.nets) (h2 : x.ds.length = y.ds.length) (h3 : namD x.ps y.ps = -1) (h4 : sizD x.ds y.ds = -1) (h5 : ¬ colD (refNet x).1.1 (refNet y).1.1 = -1) : xplR x y = (5, colD (refNet x).1.1 (refNet y).1.1, 0) := by unfold xplR; rw [if_pos h, if_pos h2, if_pos h3, if_pos h4, if_neg h5]
theorem xpl_6 {x y : Nl} (h : x.nets = y.nets) (h2 : x.ds.length = y.ds.length) (h3 : namD x.ps y.ps = -1) (h4 : sizD x.ds y.ds = -1) (h5 : colD (refNet x).1.1 (refNet y).1.1 = -1) (h6 : ¬ colD (refNet x).1.2 (refNet y).1.2 = -1) : xplR x y = (6, colD (refNet x).1.2 (refNet y).1.2, 0) := by unfold xplR; rw [if_pos h, if_pos h2, if_pos h3, if_pos h4, if_pos h5, if_neg h6]
theorem xpl_7 {x y : Nl} (h : x.nets = y.nets) (h2 : x.ds.length = y.ds.length) (h3 : namD x.ps y.ps = -1) (h4 : sizD x.ds y.ds = -1) (h5 : colD (refNet x).1.1 (refNet y).1.1 = -1) (h6 : colD (refNet x).1.2 (refNet y).1.2 = -1) : xplR x y = (0, 0, 0) := by unfold xplR; rw [if_pos h, if_pos h2, if_pos h3, if_pos h4, if_pos h5, if_pos h6]
theorem ref_rng {x : Nl} (hx : nlB x = true) : (∀ z ∈ (refNet x).1.1, 0 ≤ z ∧ z < 24) ∧ ∀ z ∈ (refNet x).1.2, 0 ≤ z ∧ z < 24 := by
  have hr : refNet x = refN x 64 (iniS x) 0 := by unfold refNet; rw [if_pos hx]
  have h := coB_refN 64 (iniS x) 0 (coB_ini hx)
  rw [coB_of _ hx, Bool.and_eq_true] at h
  have key : ∀ (zs : List Int) (n : Int), colsB zs n = true → ∀ z ∈ zs, 0 ≤ z ∧ z < 24 := fun zs n h z hz => by
    simp only [colsB, Bool.and_eq_true, decide_eq_true_eq, List.all_eq_true] at h
    have := inB_iff.1 (h.1 z hz)
    omega
  rw [hr]
  exact ⟨key _ _ h.1, key _ _ h.2⟩
theorem colD_ge (a b : List Int) : -1 ≤ colD a b := by
  unfold colD
  rcases fstNo_cases (fun c : Nat => decide (a.count (c : Int) = b.count (c : Int))) 24 with ⟨h, _⟩ | ⟨k, _, h, _⟩ <;> omega
set_option maxRecDepth 100000 in
set_option maxHeartbeats 16000000 in
theorem explained_any (x y : Nl) (v u : Value) (w : World) (h : NlV w v x) (h' : NlV w u y) (hx : nlB x = true) (hy : nlB y = true) :
    Calls Tryz.prog 18 #[v, u] w fun e w' => e = .returned (.agg #[.int .i64 (xplR x y).1, .int .i64 (xplR x y).2.1, .int .i64 (xplR x y).2.2]) ∧ Below w.heap.size w w' := by
  have HV := Lib.hid h
  have HU := Lib.hid h'
  have HXB := Lib.hid hx
  have HYB := Lib.hid hy
  obtain ⟨s1, s2, rfl, hd, hp⟩ := h
  obtain ⟨t1, t2, rfl, hd', hp'⟩ := h'
  have HP := Lib.hid hp
  have HQ := Lib.hid hp'
  obtain ⟨a1, c1, rfl⟩ := hd.sized
  obtain ⟨a2, c2, rfl⟩ := hp.sized
  obtain ⟨b1, d1, rfl⟩ := hd'.sized
  obtain ⟨b2, d2, rfl⟩ := hp'.sized
  obtain ⟨K1, L1, R1, hX⟩ : ∃ K L R, xplR x y = (K, L, R) := ⟨_, _, _, rfl⟩
  rw [hX]
  dsimp only
  have HX := Lib.hid hX
  have HAY := Lib.hid (fun h => @fstNo_none (namAt x.ps y.ps) (max x.ps.length y.ps.length) h)
  have HAN := Lib.hid (fun k a b c => @fstNo_at (namAt x.ps y.ps) (max x.ps.length y.ps.length) k a b c)
  have HNA := Lib.hid (show ∀ k p q, x.ps[k]? = some p → y.ps[k]? = some q → namAt x.ps y.ps k = (p.name.toList == q.name.toList) from fun k p q h1 h2 => by unfold namAt; rw [h1, h2])
  have HN1 := Lib.hid (show ∀ k, x.ps.length ≤ k → namAt x.ps y.ps k = false from fun k h => by unfold namAt; rw [show x.ps[k]? = none by simp; omega])
  have HN2 := Lib.hid (show ∀ k, y.ps.length ≤ k → namAt x.ps y.ps k = false from fun k h => by
    unfold namAt
    rw [show y.ps[k]? = none by simp; omega]
    cases x.ps[k]? <;> rfl)
  have HND := Lib.hid (show namD x.ps y.ps = fstNo (namAt x.ps y.ps) (max x.ps.length y.ps.length) from rfl)
  have HSD := Lib.hid (sizD_rows x.ds y.ds)
  have HSY := Lib.hid (fun h => @fstNo_none (fun i => decide ((rowsS x.ds)[i]? = (rowsS y.ds)[i]?)) x.ds.length h)
  have HSN := Lib.hid (fun k a b c => @fstNo_at (fun i => decide ((rowsS x.ds)[i]? = (rowsS y.ds)[i]?)) x.ds.length k a b c)
  have hpx8 : x.ps.length ≤ 8 := (nlB_facts hx).2.2.1
  have hpy8 : y.ps.length ≤ 8 := (nlB_facts hy).2.2.1
  have hlx24 : x.ds.length ≤ 24 := (nlB_facts hx).2.1
  have hly24 : y.ds.length ≤ 24 := (nlB_facts hy).2.1
  have hn0 : 0 ≤ x.nets ∧ x.nets ≤ 24 := (nlB_facts hx).1
  have HZX := Lib.hid (fun v w h => sizesOf_any x v w h hlx24)
  have HZY := Lib.hid (fun v w h => sizesOf_any y v w h hly24)
  have HRLX := Lib.hid (length_rowsS x.ds)
  have HRLY := Lib.hid (length_rowsS y.ds)
  have HFC := Lib.hid (fun xs ys s1 s2 w h h' a b c d => firstColor_any xs ys s1 s2 w h h' a b c d)
  generalize namAt x.ps y.ps = F at *
  obtain ⟨nx, hnx⟩ : ∃ N, x.nets = N := ⟨_, rfl⟩
  obtain ⟨ny, hny⟩ : ∃ N, y.nets = N := ⟨_, rfl⟩
  obtain ⟨n, hn⟩ : ∃ N, x.ds.length = N := ⟨_, rfl⟩
  obtain ⟨n2, hn2⟩ : ∃ N, y.ds.length = N := ⟨_, rfl⟩
  obtain ⟨p, hpl⟩ : ∃ N, x.ps.length = N := ⟨_, rfl⟩
  obtain ⟨q, hql⟩ : ∃ N, y.ps.length = N := ⟨_, rfl⟩
  rw [hnx, hn, hpl] at HV ⊢
  rw [hny, hn2, hql] at HU ⊢
  rw [hpl] at HP HN1 hpx8
  rw [hql] at HQ HN2 hpy8
  rw [hpl, hql] at HAY HAN HND
  rw [hn] at HSY HSN HSD HZX HRLX hlx24
  rw [hn2] at HZY HRLY hly24
  rw [hnx] at hn0
  have HLP := Lib.hid hpl
  have HLQ := Lib.hid hql
  have HLN := Lib.hid hn
  have HLM := Lib.hid hn2
  have HNX := Lib.hid hnx
  have HNY := Lib.hid hny
  have kA0 : Blk (((w.alloc (.cells #[.int .i64 nx, .slice a1 n c1, .slice a2 p c2] 27)).alloc (.cells #[.int .i64 ny, .slice b1 n2 d1, .slice b2 q d2] 27)).alloc (.cells #[.int .i64 0, .int .i64 0, .int .i64 0] 36)) w.heap.size #[.int .i64 nx, .slice a1 n c1, .slice a2 p c2] 27 := ((Blk.new _ rfl).past _).past _
  have kB0 : Blk (((w.alloc (.cells #[.int .i64 nx, .slice a1 n c1, .slice a2 p c2] 27)).alloc (.cells #[.int .i64 ny, .slice b1 n2 d1, .slice b2 q d2] 27)).alloc (.cells #[.int .i64 0, .int .i64 0, .int .i64 0] 36)) (w.heap.size + 1) #[.int .i64 ny, .slice b1 n2 d1, .slice b2 q d2] 27 := (Blk.new _ (by simp)).past _
  have kR0 : Blk (((w.alloc (.cells #[.int .i64 nx, .slice a1 n c1, .slice a2 p c2] 27)).alloc (.cells #[.int .i64 ny, .slice b1 n2 d1, .slice b2 q d2] 27)).alloc (.cells #[.int .i64 0, .int .i64 0, .int .i64 0] 36)) (w.heap.size + 2) #[.int .i64 0, .int .i64 0, .int .i64 0] 36 := Blk.new _ (by simp)
  have hb0 : Below w.heap.size w (((w.alloc (.cells #[.int .i64 nx, .slice a1 n c1, .slice a2 p c2] 27)).alloc (.cells #[.int .i64 ny, .slice b1 n2 d1, .slice b2 q d2] 27)).alloc (.cells #[.int .i64 0, .int .i64 0, .int .i64 0] 36)) := (((Below.refl _ w).alloc (Nat.le_refl _) _).alloc (by simp) _).alloc (by simp; omega) _
  clear hd hp hd' hp' hx hy hX hnx hny hn hn2 hpl hql
  by_cases hnn : nx = ny
  · subst hnn
    have e1 : (nx != nx) = false := by simp
    have e2 : (nx == nx) = true := by simp
    by_cases hll : n = n2
    · subst hll
      have e3 : ((n : Int) != (n : Int)) = false := by simp
      have e4 : ((n : Int) == (n : Int)) = true := by simp
      go_enter Tryz.func18, Tryz.ntmps18
      go_upto_region 5 with fail
      have qA := kA0.cell
      have qB := kB0.cell
      have lA := kA0.lt
      have lB := kB0.lt
      generalize (((w.alloc (.cells #[.int .i64 nx, .slice a1 n c1, .slice a2 p c2] 27)).alloc (.cells #[.int .i64 nx, .slice b1 n d1, .slice b2 q d2] 27)).alloc (.cells #[.int .i64 0, .int .i64 0, .int .i64 0] 36)) = w0 at *
      obtain ⟨M, hM⟩ : ∃ M, max p q = M := ⟨_, rfl⟩
      rw [hM] at HAY HAN HND
      have hMp : p ≤ M := by omega
      have hMq : q ≤ M := by omega
      have hMb : M ≤ 8 := by omega
      go_cut [45, 46] from 15 to 78 (fun mv iv wx => mv = .int .i64 (M : Int) ∧ iv = .int .i64 0 ∧ w0 = wx)
      case first =>
        by_cases hpq : (p : Int) < (q : Int)
        · have hMe : M = q := by omega
          subst hMe
          go_wp2
          go_meet
          exact ⟨(by first | rfl | (simp; omega)), rfl, (by first | trivial | rfl)⟩
        · have hMe : M = p := by omega
          subst hMe
          go_wp2
          go_meet
          exact ⟨(by first | rfl | (simp; omega)), rfl, (by first | trivial | rfl)⟩
      case rest =>
      obtain ⟨rfl, rfl, rfl⟩ := hcut
      clear qA qB lA lB
      go_wp2
      go_loopw [46] (fun iv wr => ∃ k : Nat, k ≤ M ∧ iv = .int .i64 (k : Int) ∧ Hid (∀ j, j < k → F j = true) ∧ Blk wr w.heap.size #[.int .i64 nx, .slice a1 n c1, .slice a2 p c2] 27 ∧ Blk wr (w.heap.size + 1) #[.int .i64 nx, .slice b1 n d1, .slice b2 q d2] 27 ∧ Blk wr (w.heap.size + 2) #[.int .i64 0, .int .i64 0, .int .i64 0] 36 ∧ Below w.heap.size w wr) (fun iv _ => M - (intOf iv).toNat)
      case atStart => exact ⟨0, Nat.zero_le _, rfl, Lib.hid (by intro j h; omega), kA0, kB0, kR0, hb0⟩
      case round =>
        clear kA0 kB0 kR0 hb0
        obtain ⟨k, hk, rfl, HI, kA, kB, kR, hb⟩ := hrel
        by_cases hlt : k < M
        · have i1 : (k : Int) < (M : Int) := by omega
          have i2 : decide (k < M) = true := decide_eq_true hlt
          have qA := kA.cell
          have qB := kB.cell
          have lA := kA.lt
          have lB := kB.lt
          go_upto_region 8 with fail
          go_cut [75] from 48 to 78 (fun cc wx => cc = .bool (!(F k)) ∧ Below wr.heap.size wr wx)
          case first =>
            by_cases hlp : k < p
            · have g1 : decide ((p : Int) ≤ (k : Int)) = false := decide_eq_false (by omega)
              have g2 : decide (p ≤ k) = false := decide_eq_false (by omega)
              by_cases hlq : k < q
              · have g3 : decide ((q : Int) ≤ (k : Int)) = false := decide_eq_false (by omega)
                have g4 : decide (q ≤ k) = false := decide_eq_false (by omega)
                have g5 : decide (k < p) = true := decide_eq_true hlp
                have g6 : decide (k < q) = true := decide_eq_true hlq
                have j1 : (k : Int) < (p : Int) := by omega
                have j2 : (k : Int) < (q : Int) := by omega
                obtain ⟨pp, hp⟩ : ∃ p, x.ps[k]? = some p := ⟨_, List.getElem?_eq_getElem (by rw [HLP.out]; exact hlp)⟩
                obtain ⟨qq, hq⟩ : ∃ q, y.ps[k]? = some q := ⟨_, List.getElem?_eq_getElem (by rw [HLQ.out]; exact hlq)⟩
                have hat := HNA.out k pp qq hp hq
                rcases HP.out with ⟨_, _, _, h2⟩ | ⟨pb, po, pc, he, _, _, h4⟩
                · rw [h2] at hp; simp at hp
                obtain ⟨rfl, rfl⟩ : a2 = some ⟨pb, po, none⟩ ∧ c2 = pc := by
                  simp only [Value.slice.injEq] at he
                  exact ⟨he.1, he.2.2⟩
                rcases HQ.out with ⟨_, _, _, h2⟩ | ⟨qb, qo, qc, he', _, _, h4'⟩
                · rw [h2] at hq; simp at hq
                obtain ⟨rfl, rfl⟩ : b2 = some ⟨qb, qo, none⟩ ∧ d2 = qc := by
                  simp only [Value.slice.injEq] at he'
                  exact ⟨he'.1, he'.2.2⟩
                obtain ⟨p1, p2⟩ := (h4 k pp hp).by hb
                obtain ⟨q1, q2⟩ := (h4' k qq hq).by hb
                obtain ⟨name, net⟩ := pp
                obtain ⟨name', net'⟩ := qq
                dsimp only at p1 p2 q1 q2 hat
                have HAT := Lib.hid hat
                clear hp hq hat he he' h4 h4' p2 q2 kA kB kR
                cases hna : (name.toList == name'.toList) with
                | true =>
                  rw [hna] at HAT
                  go_quiet (fail)
                  go_wp2
                  go_meet
                  exact ⟨by rw [HAT.out]; rfl, blwT⟩
                | false =>
                  rw [hna] at HAT
                  go_quiet (fail)
                  go_wp2
                  go_meet
                  exact ⟨by rw [HAT.out]; rfl, blwT⟩
              · have g3 : decide ((q : Int) ≤ (k : Int)) = true := decide_eq_true (by omega)
                have g4 : decide (q ≤ k) = true := decide_eq_true (by omega)
                have HAT := Lib.hid (HN2.out k (by omega))
                clear kA kB kR hlq
                go_quiet (fail)
                go_wp2
                go_meet
                exact ⟨by rw [HAT.out]; rfl, blwT⟩
            · have g1 : decide ((p : Int) ≤ (k : Int)) = true := decide_eq_true (by omega)
              have g2 : decide (p ≤ k) = true := decide_eq_true (by omega)
              have HAT := Lib.hid (HN1.out k (by omega))
              clear kA kB kR hlp
              go_quiet (fail)
              go_wp2
              go_meet
              exact ⟨by rw [HAT.out]; rfl, blwT⟩
          case rest =>
            obtain ⟨rfl, hbc⟩ := hcut
            have kA1 := Blk.by hbc kA
            have kB1 := Blk.by hbc kB
            have kR1 := Blk.by hbc kR
            have hb1 := below_on hbc hb
            clear kA kB kR qA qB lA lB hb hbc
            cases hF : F k with
            | true =>
              have HF := Lib.hid hF
              clear hF
              go_wp2
              refine ⟨⟨k + 1, by omega, by go_num, Lib.hid (fun j hj => ?_), kA1, kB1, kR1, hb1⟩, by simp [intOf]; omega⟩
              by_cases ej : j = k
              · subst ej; exact HF.out
              · exact HI.out j (by omega)
            | false =>
              have hr := HAN.out k hlt hF HI.out
              have hND : namD x.ps y.ps = (k : Int) := HND.out.trans hr
              clear hF hr
              obtain ⟨rfl, rfl, rfl⟩ : (3 : Int) = K1 ∧ (k : Int) = L1 ∧ 0 = R1 := by
                have h := ((xpl_3 (HNX.out.trans HNY.out.symm) (HLN.out.trans HLM.out.symm) (by rw [hND]; omega)).trans (by rw [hND])).symm.trans HX.out
                simp only [Prod.mk.injEq] at h
                exact h
              have qR := kR1.cell
              have fR := kR1.free
              have lR := kR1.lt
              go_wp2
              exact bodyPost_ret (v := .agg #[.int .i64 (3), .int .i64 ((k : Int)), .int .i64 (0)]) (by simp [results, Tryz.results18, go_sem, *]) rfl ⟨rfl, ((hb1.setCell (show w.heap.size ≤ w.heap.size + 2 by omega) _).setCell (show w.heap.size ≤ w.heap.size + 2 by omega) _).setCell (show w.heap.size ≤ w.heap.size + 2 by omega) _⟩
        · obtain rfl : k = M := by omega
          have i1 : ¬ (k : Int) < (k : Int) := by omega
          have HNO := Lib.hid (show namD x.ps y.ps = -1 from HND.out.trans (HAY.out (fun i hi => HI.out i hi)))
          have qA := kA.cell
          have qB := kB.cell
          have lA := kA.lt
          have lB := kB.lt
          clear hlt HI hk
          go_wp2_with fail
          refine (HZY.out _ wr (HU.out.by hb)).mono ?_
          rintro e w1 ⟨go, co, rfl, hO, hb1⟩
          have HO := Lib.hid hO
          have kA1 := Blk.by hb1 kA
          have kB1 := Blk.by hb1 kB
          have kR1 := Blk.by hb1 kR
          have hb1w := below_on hb1 hb
          clear hO kA kB kR hb qA qB lA lB hb1
          have qA := kA1.cell
          have lA := kA1.lt
          go_wp2_with fail
          refine (HZX.out _ w1 (HV.out.by hb1w)).mono ?_
          rintro e w2 ⟨gs, cs, rfl, hS, hb2⟩
          have HS := Lib.hid hS
          have HO2 := Lib.hid (HO.out.by hb2)
          have kA2 := Blk.by hb2 kA1
          have kB2 := Blk.by hb2 kB1
          have kR2 := Blk.by hb2 kR1
          have hb2w := below_on hb2 hb1w
          clear hS HO kA1 kB1 kR1 hb1w qA lA hb2
          go_wp2
          obtain ⟨wo, rfl⟩ : ∃ z : World, z = w2 := ⟨_, rfl⟩
          go_loopw [84] (fun iv wr => ∃ k : Nat, k ≤ n ∧ iv = .int .i64 (k : Int) ∧ Hid (∀ j, j < k → (rowsS x.ds)[j]? = (rowsS y.ds)[j]?) ∧ Below wo.heap.size wo wr) (fun iv _ => n - (intOf iv).toNat)
          case atStart => exact ⟨0, Nat.zero_le _, rfl, Lib.hid (by intro j h; omega), blwT⟩
          case round =>
            obtain ⟨k, hk, rfl, HI, hbo⟩ := hrel
            have kA3 := Blk.by hbo kA2
            have kB3 := Blk.by hbo kB2
            have kR3 := Blk.by hbo kR2
            have hb3w := below_on hbo hb2w
            by_cases hlt : k < n
            · have i1 : (k : Int) < (n : Int) := by omega
              have i2 : decide (k < n) = true := decide_eq_true hlt
              obtain ⟨rx, hrx⟩ : ∃ r, (rowsS x.ds)[k]? = some r := ⟨_, List.getElem?_eq_getElem (by rw [HRLX.out]; exact hlt)⟩
              obtain ⟨ry, hry⟩ : ∃ r, (rowsS y.ds)[k]? = some r := ⟨_, List.getElem?_eq_getElem (by rw [HRLY.out]; exact hlt)⟩
              rcases HS.out.by hbo with ⟨_, _, _, h2⟩ | ⟨xb, xo, xc, he, _, _, h4⟩
              · rw [h2] at hrx; simp at hrx
              rcases HO2.out.by hbo with ⟨_, _, _, h2⟩ | ⟨yb, yo, yc, he', _, _, h4'⟩
              · rw [h2] at hry; simp at hry
              simp only [Value.slice.injEq, Option.some.injEq, Addr.mk.injEq, and_true] at he he'
              obtain ⟨⟨rfl, rfl⟩, ex1, rfl⟩ := he
              obtain ⟨⟨rfl, rfl⟩, ey1, rfl⟩ := he'
              obtain ⟨sx, x1, x2⟩ := h4 k rx hrx
              obtain ⟨sy, y1, y2⟩ := h4' k ry hry
              rw [Nat.zero_add] at x1 y1
              have HX2 := Lib.hid x2
              have HY2 := Lib.hid y2
              have lx := lt_of_cell x1
              have ly := lt_of_cell y1
              dsimp only at lx ly
              have HEQ := Lib.hid (fun w h h' => slicesEqual_any sx sy rx ry w h h')
              obtain ⟨RE, hRE⟩ : ∃ R : Bool, decide (rx = ry) = R := ⟨_, rfl⟩
              rw [hRE] at HEQ
              have HRE := Lib.hid hRE
              have HRX := Lib.hid hrx
              have HRY := Lib.hid hry
              clear hRE hrx hry h4 h4' x2 y2 ex1 ey1
              go_wp2_with fail
              refine (HEQ.out _ HX2.out HY2.out).mono ?_
              rintro e w4 ⟨rfl, nd, rfl⟩
              have hb4 := below_of_drewN wr nd
              have kA4 := Blk.by hb4 kA3
              have kB4 := Blk.by hb4 kB3
              have kR4 := Blk.by hb4 kR3
              have hb4w := below_on hb4 hb3w
              have hbo4 := below_on hb4 hbo
              generalize wr.drewN nd = w4 at *
              clear x1 y1 lx ly hb4 kA3 kB3 kR3 hb3w
              cases RE with
              | true =>
                go_wp2
                refine ⟨⟨k + 1, by omega, by go_num, Lib.hid (fun j hj => ?_), hbo4⟩, by simp [intOf]; omega⟩
                by_cases ej : j = k
                · subst ej; rw [HRX.out, HRY.out, of_decide_eq_true HRE.out]
                · exact HI.out j (by omega)
              | false =>
                have hSZ : sizD x.ds y.ds = (k : Int) := HSD.out.trans (HSN.out k hlt (decide_eq_false (fun e => by
                  rw [HRX.out, HRY.out] at e
                  exact of_decide_eq_false HRE.out (Option.some.inj e))) (fun i hi => decide_eq_true (HI.out i hi)))
                obtain ⟨rfl, rfl, rfl⟩ : (4 : Int) = K1 ∧ (k : Int) = L1 ∧ 0 = R1 := by
                  have h := ((xpl_4 (HNX.out.trans HNY.out.symm) (HLN.out.trans HLM.out.symm) HNO.out (by rw [hSZ]; omega)).trans (by rw [hSZ])).symm.trans HX.out
                  simp only [Prod.mk.injEq] at h
                  exact h
                have qR := kR4.cell
                have fR := kR4.free
                have lR := kR4.lt
                go_wp2
                exact bodyPost_ret (v := .agg #[.int .i64 (4), .int .i64 ((k : Int)), .int .i64 (0)]) (by simp [results, Tryz.results18, go_sem, *]) rfl ⟨rfl, ((hb4w.setCell (show w.heap.size ≤ w.heap.size + 2 by omega) _).setCell (show w.heap.size ≤ w.heap.size + 2 by omega) _).setCell (show w.heap.size ≤ w.heap.size + 2 by omega) _⟩
            · obtain rfl : n = k := by omega
              have i1 : ¬ (n : Int) < (n : Int) := by omega
              have HSO := Lib.hid (show sizD x.ds y.ds = -1 from HSD.out.trans (HSY.out (fun i hi => decide_eq_true (HI.out i hi))))
              obtain ⟨N, hN⟩ : ∃ N : Nat, nx = N := ⟨nx.toNat, by omega⟩
              have HRFX := Lib.hid (fun v w h => refined_n x N HXB.out (HNX.out.trans hN) v w h)
              have HRFY := Lib.hid (fun v w h => refined_n y N HYB.out (HNY.out.trans hN) v w h)
              have HRGX := Lib.hid (ref_rng HXB.out)
              have HRGY := Lib.hid (ref_rng HYB.out)
              have HLNX := Lib.hid (show (refNet x).1.1.length = N ∧ (refNet x).1.2.length ≤ 24 from by have := ref_lens HXB.out; have h1 := HNX.out; have h2 := HLN.out; omega)
              have HLNY := Lib.hid (show (refNet y).1.1.length = N ∧ (refNet y).1.2.length ≤ 24 from by have := ref_lens HYB.out; have h1 := HNY.out; have h2 := HLM.out; omega)
              have hN24 : N ≤ 24 := by omega
              have HC1 := Lib.hid (colD_ge (refNet x).1.1 (refNet y).1.1)
              have HC2 := Lib.hid (colD_ge (refNet x).1.2 (refNet y).1.2)
              have qA := kA3.cell
              have qB := kB3.cell
              have lA := kA3.lt
              have lB := kB3.lt
              clear hlt HI hN HS HO2 hbo
              go_wp2_with fail
              refine (HRFX.out _ wr (HV.out.by hb3w)).mono ?_
              rintro e w5 ⟨e1', f1', e2', LX, f2', qx, rfl, hO1, hO2, hL1, hb5⟩
              have HO1 := Lib.hid hO1.sl
              have HO2 := Lib.hid hO2.sl
              have kA5 := Blk.by hb5 kA3
              have kB5 := Blk.by hb5 kB3
              have kR5 := Blk.by hb5 kR3
              have hb5w := below_on hb5 hb3w
              clear hO1 hO2 hb5 kA3 kB3 kR3 hb3w qA qB lA lB kA2 kB2 kR2 hb2w
              have hal : Below w5.heap.size w5 (w5.alloc (.cells #[.slice e1' N f1', .slice e2' LX f2'] 77)) := (Below.refl _ w5).alloc (Nat.le_refl _) _
              have kX6 : Blk (w5.alloc (.cells #[.slice e1' N f1', .slice e2' LX f2'] 77)) w5.heap.size #[.slice e1' N f1', .slice e2' LX f2'] 77 := Blk.new _ rfl
              have kB6 := Blk.by hal kB5
              have kR6 := Blk.by hal kR5
              have hb6w := below_on hal hb5w
              have HO16 := Lib.hid (HO1.out.by hal)
              have HO26 := Lib.hid (HO2.out.by hal)
              have qB := kB6.cell
              have lB := kB6.lt
              clear hal HO1 HO2 kA5 kB5 kR5 hb5w
              go_wp2_with fail
              generalize w5.alloc (.cells #[.slice e1' N f1', .slice e2' LX f2'] 77) = w6 at *
              generalize w5.heap.size = X at *
              refine (HRFY.out _ w6 (HU.out.by hb6w)).mono ?_
              rintro e w7 ⟨g1', h1', g2', LY, h2', qy, rfl, hO3, hO4, hL2, hb7⟩
              have HO3 := Lib.hid hO3.sl
              have HO4 := Lib.hid hO4.sl
              have HO17 := Lib.hid (HO16.out.by hb7)
              have HO27 := Lib.hid (HO26.out.by hb7)
              have kX7 := Blk.by hb7 kX6
              have kR7 := Blk.by hb7 kR6
              have hb7w := below_on hb7 hb6w
              have hal : Below w7.heap.size w7 (w7.alloc (.cells #[.slice g1' N h1', .slice g2' LY h2'] 77)) := (Below.refl _ w7).alloc (Nat.le_refl _) _
              have kY8 : Blk (w7.alloc (.cells #[.slice g1' N h1', .slice g2' LY h2'] 77)) w7.heap.size #[.slice g1' N h1', .slice g2' LY h2'] 77 := Blk.new _ rfl
              have kX8 := Blk.by hal kX7
              have kR8 := Blk.by hal kR7
              have hb8w := below_on hal hb7w
              have HO18 := Lib.hid (HO17.out.by hal)
              have HO28 := Lib.hid (HO27.out.by hal)
              have HO38 := Lib.hid (HO3.out.by hal)
              have HO48 := Lib.hid (HO4.out.by hal)
              have HL1 := Lib.hid hL1
              have HL2 := Lib.hid hL2
              have qX := kX8.cell
              have lX := kX8.lt
              clear hO3 hO4 hb7 hal HO16 HO26 HO17 HO27 HO3 HO4 kX6 kR6 hb6w kX7 kR7 hb7w qB lB kB6 hL1 hL2
              go_wp2_with fail
              generalize w7.alloc (.cells #[.slice g1' N h1', .slice g2' LY h2'] 77) = w8 at *
              generalize w7.heap.size = Z at *
              refine (HFC.out _ _ _ _ w8 HO18.out HO38.out (by rw [HLNX.out.1]; omega) (by rw [HLNY.out.1]; omega) HRGX.out.1 HRGY.out.1).mono ?_
              rintro e w9 ⟨rfl, hb9⟩
              have kX9 := Blk.by hb9 kX8
              have kY9 := Blk.by hb9 kY8
              have kR9 := Blk.by hb9 kR8
              have hb9w := below_on hb9 hb8w
              have HO29 := Lib.hid (HO28.out.by hb9)
              have HO49 := Lib.hid (HO48.out.by hb9)
              clear hb9 kX8 kY8 kR8 hb8w HO18 HO28 HO38 HO48 qX lX
              obtain ⟨D1, hD1⟩ : ∃ D, colD (refNet x).1.1 (refNet y).1.1 = D := ⟨_, rfl⟩
              rw [hD1] at HC1 ⊢
              have HD1 := Lib.hid hD1
              have hc1 := HC1.out
              clear hD1
              by_cases hge : 0 ≤ D1
              · have f2 : ¬ D1 < 0 := by omega
                have f4 : decide ((0 : Int) ≤ D1) = true := decide_eq_true hge
                obtain ⟨rfl, rfl, rfl⟩ : (5 : Int) = K1 ∧ D1 = L1 ∧ 0 = R1 := by
                  have h := ((xpl_5 (HNX.out.trans HNY.out.symm) (HLN.out.trans HLM.out.symm) HNO.out HSO.out (by rw [HD1.out]; omega)).trans (by rw [HD1.out])).symm.trans HX.out
                  simp only [Prod.mk.injEq] at h
                  exact h
                have qR := kR9.cell
                have fR := kR9.free
                have lR := kR9.lt
                go_wp2
                exact bodyPost_ret (v := .agg #[.int .i64 (5), .int .i64 (D1), .int .i64 (0)]) (by simp [results, Tryz.results18, go_sem, *]) rfl ⟨rfl, ((hb9w.setCell (show w.heap.size ≤ w.heap.size + 2 by omega) _).setCell (show w.heap.size ≤ w.heap.size + 2 by omega) _).setCell (show w.heap.size ≤ w.heap.size + 2 by omega) _⟩
              · have f2 : D1 < 0 := by omega
                have f4 : decide ((0 : Int) ≤ D1) = false := decide_eq_false hge
                have hD1m : D1 = -1 := by omega
                have HDM := Lib.hid (HD1.out.trans hD1m)
                have qX := kX9.cell
                have lX := kX9.lt
                have qY := kY9.cell
                have lY := kY9.lt
                clear hD1m
                go_wp2_with fail
                refine (HFC.out _ _ _ _ w9 HO29.out HO49.out (by have := HLNX.out.2; omega) (by have := HLNY.out.2; omega) HRGX.out.2 HRGY.out.2).mono ?_
                rintro e w10 ⟨rfl, hb10⟩
                have kR10 := Blk.by hb10 kR9
                have hb10w := below_on hb10 hb9w
                clear hb10 kX9 kY9 kR9 hb9w HO29 HO49 qX lX qY lY f2 f4 hge
                obtain ⟨D2, hD2⟩ : ∃ D, colD (refNet x).1.2 (refNet y).1.2 = D := ⟨_, rfl⟩
                rw [hD2] at HC2 ⊢
                have HD2 := Lib.hid hD2
                have hc2 := HC2.out
                clear hD2
                by_cases hge : 0 ≤ D2
                · have f2 : ¬ D2 < 0 := by omega
                  have f4 : decide ((0 : Int) ≤ D2) = true := decide_eq_true hge
                  obtain ⟨rfl, rfl, rfl⟩ : (6 : Int) = K1 ∧ D2 = L1 ∧ 0 = R1 := by
                    have h := ((xpl_6 (HNX.out.trans HNY.out.symm) (HLN.out.trans HLM.out.symm) HNO.out HSO.out HDM.out (by rw [HD2.out]; omega)).trans (by rw [HD2.out])).symm.trans HX.out
                    simp only [Prod.mk.injEq] at h
                    exact h
                  have qR := kR10.cell
                  have fR := kR10.free
                  have lR := kR10.lt
                  go_wp2
                  exact bodyPost_ret (v := .agg #[.int .i64 (6), .int .i64 (D2), .int .i64 (0)]) (by simp [results, Tryz.results18, go_sem, *]) rfl ⟨rfl, ((hb10w.setCell (show w.heap.size ≤ w.heap.size + 2 by omega) _).setCell (show w.heap.size ≤ w.heap.size + 2 by omega) _).setCell (show w.heap.size ≤ w.heap.size + 2 by omega) _⟩
                · have f2 : D2 < 0 := by omega
                  have f4 : decide ((0 : Int) ≤ D2) = false := decide_eq_false hge
                  have hD2m : D2 = -1 := by omega
                  have HDM2 := Lib.hid (HD2.out.trans hD2m)
                  clear hD2m
                  obtain ⟨rfl, rfl, rfl⟩ : (0 : Int) = K1 ∧ 0 = L1 ∧ 0 = R1 := by
                    have h := (xpl_7 (HNX.out.trans HNY.out.symm) (HLN.out.trans HLM.out.symm) HNO.out HSO.out HDM.out HDM2.out).symm.trans HX.out
                    simp only [Prod.mk.injEq] at h
                    exact h
                  have qR := kR10.cell
                  have fR := kR10.free
                  have lR := kR10.lt
                  go_wp2
                  exact bodyPost_ret (v := .agg #[.int .i64 (0), .int .i64 (0), .int .i64 (0)]) (by simp [results, Tryz.results18, go_sem, *]) rfl ⟨rfl, ((hb10w.setCell (show w.heap.size ≤ w.heap.size + 2 by omega) _).setCell (show w.heap.size ≤ w.heap.size + 2 by omega) _).setCell (show w.heap.size ≤ w.heap.size + 2 by omega) _⟩
    · have e3 : ((n : Int) != (n2 : Int)) = true := by simp; omega
      have e4 : ((n : Int) == (n2 : Int)) = false := by simp; omega
      have qA := kA0.cell
      have lA := kA0.lt
      have qB := kB0.cell
      have lB := kB0.lt
      go_enter Tryz.func18, Tryz.ntmps18
      obtain ⟨rfl, rfl, rfl⟩ : (2 : Int) = K1 ∧ (n : Int) = L1 ∧ (n2 : Int) = R1 := by
        have h := ((xpl_2 (HNX.out.trans HNY.out.symm) (by rw [HLN.out, HLM.out]; exact hll)).trans (by rw [HLN.out, HLM.out])).symm.trans HX.out
        simp only [Prod.mk.injEq] at h
        exact h
      have qR := kR0.cell
      have fR := kR0.free
      have lR := kR0.lt
      go_wp2
      exact bodyPost_ret (v := .agg #[.int .i64 (2), .int .i64 ((n : Int)), .int .i64 ((n2 : Int))]) (by simp [results, Tryz.results18, go_sem, *]) rfl ⟨rfl, (((Below.refl _ w).alloc (Nat.le_refl _) _).alloc (by simp) _).alloc (by simp; omega) _⟩
  · have e1 : (nx != ny) = true := by simpa using hnn
    have e2 : (nx == ny) = false := by simpa using hnn
    have qA := kA0.cell
    have lA := kA0.lt
    have qB := kB0.cell
    have lB := kB0.lt
    go_enter Tryz.func18, Tryz.ntmps18
    obtain ⟨rfl, rfl, rfl⟩ : (1 : Int) = K1 ∧ nx = L1 ∧ ny = R1 := by
      have h := ((xpl_1 (by rw [HNX.out, HNY.out]; exact hnn)).trans (by rw [HNX.out, HNY.out])).symm.trans HX.out
      simp only [Prod.mk.injEq] at h
      exact h
    have qR := kR0.cell
    have fR := kR0.free
    have lR := kR0.lt
    go_wp2
    exact bodyPost_ret (v := .agg #[.int .i64 (1), .int .i64 (nx), .int .i64 (ny)]) (by simp [results, Tryz.results18, go_sem, *]) rfl ⟨rfl, (((Below.refl _ w).alloc (Nat.le_refl _) _).alloc (by simp) _).alloc (by simp; omega) _⟩
theorem list_pushN {ops : Array Oper} {rest : List Oper} {o : Oper} {a : Act} {w : World} {Q : Exit → Act → World → Prop} (hgd : o.guard = none) (s x : Operand)
    (ho : o.op = .call { callee := .builtin .append, args := #[s, x], argTypes := #[30, 30] })
    (lo hi N : Nat) (v : Value) (zs ys : List Int) (hN : zs.length = N) (hs : a.eval s = v) (hB : BldI w lo hi v zs) (nb m : Nat) (cs : Array Value) (hx : a.eval x = .slice (some ⟨nb, 0, none⟩) m m) (hys : ys.length = m) (hm : 0 < m)
    (hnb : Blk w nb cs 2) (hcs : cs.toList = icells ys) (hlo : lo ≤ hi) (hn : N + m ≤ 8000000)
    (hK : ∀ a' c' w', BldI w' lo w'.heap.size (.slice a' (N + m) c') (zs ++ ys) → Within lo hi w w' → wpList Tryz.prog ops Q rest (a.put o.dst (.slice a' (N + m) c')) w') : wpList Tryz.prog ops Q (o :: rest) a w := by
  subst hN
  exact list_pushI hgd s x ho lo hi v zs ys hs hB nb m cs hx hys hm hnb hcs hlo hn hK
set_option maxRecDepth 100000 in
set_option maxHeartbeats 8000000 in
theorem counterparts_any (x y : Nl) (z : List Int) (v u sz : Value) (w : World) (h : NlV w v x) (h' : NlV w u y) (hz : IntSl w sz z) (hx : nlB x = true) (hy : nlB y = true) (hll : y.ds.length = x.ds.length) (hzl : x.nets ≤ (z.length : Int)) (hperm : (x.ds.map fun d => nzD (renD z d)).Perm (y.ds.map nzD)) :
    Calls Tryz.prog 17 #[v, u, sz] w fun e w' => ∃ v', e = .returned v' ∧ OwnR w' w.heap.size w'.heap.size v' (cpS x y z) ∧ Below w.heap.size w w' := by
  obtain ⟨_, hl, _, hdx, _⟩ := nlB_facts hx
  obtain ⟨_, _, _, hdy, _⟩ := nlB_facts hy
  have HPX := Lib.hid (show ∀ d ∈ x.ds, 2 ≤ d.pins.length ∧ d.pins.length ≤ 3 ∧ ∀ p ∈ d.pins, 0 ≤ p ∧ p < (z.length : Int) from fun d hd => by have := dvB_pins (hdx d hd); exact ⟨this.2.1, this.1, fun p hp => by have := this.2.2 p hp; omega⟩)
  have HPY := Lib.hid (show ∀ d ∈ y.ds, d.pins.length ≤ 3 from fun d hd => (dvB_pins (hdy d hd)).1)
  obtain ⟨s1, s2, rfl, hd, hp⟩ := h
  obtain ⟨t1, t2, rfl, hd', hp'⟩ := h'
  obtain ⟨nx, xs, ps⟩ := x
  obtain ⟨ny, ys, qs⟩ := y
  unfold cpS
  dsimp only at *
  have HX := Lib.hid hd
  have HY := Lib.hid hd'
  have HZ := Lib.hid hz
  have HPK := Lib.hid (fun k hk => dev_pick (k := k) hperm hk)
  obtain ⟨a1, c1, rfl⟩ := hd.sized
  obtain ⟨a2, c2, rfl⟩ := hp.sized
  obtain ⟨b1, d1, rfl⟩ := hd'.sized
  obtain ⟨b2, d2, rfl⟩ := hp'.sized
  obtain ⟨az, cz, rfl⟩ := hz.len
  obtain ⟨n, hn⟩ : ∃ n, xs.length = n := ⟨_, rfl⟩
  obtain ⟨p, hpl⟩ : ∃ n, ps.length = n := ⟨_, rfl⟩
  obtain ⟨q2, hql⟩ : ∃ n, qs.length = n := ⟨_, rfl⟩
  obtain ⟨m, hm⟩ : ∃ n, z.length = n := ⟨_, rfl⟩
  have HMP := Lib.hid (fun (d : Dv) sx w (h : IntSl w sx d.pins) hn a b c => mappedO_any d z sx (.slice az m cz) w h hn a b c)
  have HNY := Lib.hid (fun (d : Dv) sx w (h : IntSl w sx d.pins) hn => implNorm_any d.kind d.wd d.len sx d.pins w h hn)
  have HCD := Lib.hid (fun (d e : Dv) s1 s2 xs ys w h h' => compareDevices_any d.kind d.wd d.len e.kind e.wd e.len s1 s2 xs ys w h h')
  have HCT := Lib.hid (fun sv zs k w h hl => containsI_any sv zs k w h hl)
  have HIS := Lib.hid (fun (d e : Dv) (h : ∀ k, devcmp d.kind e.kind (normz d.kind (d.pins.map (nmOf z))) (normz e.kind e.pins) d.wd e.wd d.len e.len = k → decide (k = 0) = isoD z d e) => h)
  have HIZ := Lib.hid (fun (d e : Dv) => (show isoD z d e = decide (devcmp d.kind e.kind (normz d.kind (d.pins.map (nmOf z))) (normz e.kind e.pins) d.wd e.wd d.len e.len = 0) from rfl))
  rw [hpl, hql, hm]
  rw [hm] at HZ HPX
  rw [hll] at HY HPK ⊢
  rw [hn] at HX HY HPK hl ⊢
  have HN := Lib.hid hn
  have HM := Lib.hid (hll.trans hn)
  have HZM := Lib.hid hm
  have HGL := Lib.hid (show ∀ k, k ≤ n → (grd (xs.map fun d => nzD (renD z d)) (ys.map nzD) k).length = k from by
    intro k
    induction k with
    | zero => intro _; rfl
    | succ k ih =>
      intro hk
      obtain ⟨j, h1, _⟩ := HPK.out k (by omega)
      rw [h1, List.length_append, ih (by omega)]
      rfl)
  have HG0 := Lib.hid (show grd (xs.map fun d => nzD (renD z d)) (ys.map nzD) 0 = [] from rfl)
  generalize grd (xs.map fun d => nzD (renD z d)) (ys.map nzD) = G at *
  clear hd hp hd' hp' hz hx hy hdx hdy hn hpl hql hll hm hperm hzl HIS
  have HI0 : Hid (BldI (((w.alloc (.cells #[.int .i64 nx, .slice a1 n c1, .slice a2 p c2] 27)).alloc (.cells #[.int .i64 ny, .slice b1 n d1, .slice b2 q2 d2] 27)).alloc (.cells #[] 2)) (w.heap.size + 2) (w.heap.size + 3) (.slice (some ⟨w.heap.size + 2, 0, none⟩) 0 0) (G 0)) := Lib.hid (by rw [HG0.out]; exact BldI.lit (zs := []) (Blk.new _ (by simp)) rfl (by simp) (Nat.le_refl _) (by omega) (by simp))
  go_enter Tryz.func17, Tryz.ntmps17
  go_wp2
  go_loopw [7, 17] (fun ov iv wr => ∃ (k c hi : Nat) (ga : Option Addr), k ≤ n ∧ ov = .slice ga k c ∧ iv = .int .i64 (k : Int) ∧ Hid (BldI wr (w.heap.size + 2) hi (.slice ga k c) (G k)) ∧ w.heap.size + 2 ≤ hi ∧ hi ≤ wr.heap.size ∧ Blk wr w.heap.size #[.int .i64 nx, .slice a1 n c1, .slice a2 p c2] 27 ∧ Blk wr (w.heap.size + 1) #[.int .i64 ny, .slice b1 n d1, .slice b2 q2 d2] 27 ∧ Below w.heap.size w wr) (fun _ iv _ => n - (intOf iv).toNat)
  case atStart => exact ⟨0, 0, w.heap.size + 3, _, Nat.zero_le _, rfl, rfl, HI0, by omega, by simp, blkT, blkT, blwT⟩
  case round =>
    clear HI0
    obtain ⟨k, c, hi, ga, hk, rfl, rfl, HI, hhi, hhs, kA, kB, hb⟩ := hrel
    have qA := kA.cell
    have lA := kA.lt
    by_cases hlt : k < n
    · have i1 : (k : Int) < (n : Int) := by omega
      have i2 : decide (k < n) = true := decide_eq_true hlt
      obtain ⟨j0, hpk, hj0, hjc, hjs, hjn⟩ := HPK.out k hlt
      have HPP := Lib.hid hpk
      have HJC := Lib.hid hjc
      have HJS := Lib.hid hjs
      have HJN := Lib.hid hjn
      obtain ⟨dx, hx⟩ : ∃ x, xs[k]? = some x := ⟨_, List.getElem?_eq_getElem (by rw [HN.out]; exact hlt)⟩
      have hpx := HPX.out dx (List.mem_of_getElem? hx)
      rcases HX.out with ⟨_, _, _, h2⟩ | ⟨xb, xo, xc, he, _, _, h4⟩
      · rw [h2] at hx; simp at hx
      obtain ⟨rfl, rfl⟩ : a1 = some ⟨xb, xo, none⟩ ∧ c1 = xc := by
        simp only [Value.slice.injEq] at he
        exact ⟨he.1, he.2.2⟩
      obtain ⟨sx, x1, x2, x3, x4, x5⟩ := (h4 k dx hx).by hb
      have HXK := Lib.hid hx
      have HPD := Lib.hid hpx
      have HX5 := Lib.hid x5
      obtain ⟨px, cx, rfl⟩ := x5.len
      have lx := lt_of_cell x1
      dsimp only at lx
      have HNZ := Lib.hid (show (normz dx.kind (dx.pins.map (nmOf z))).length = dx.pins.length from by rw [length_normz, List.length_map])
      clear hpk hjc hjs hjn hx hpx he h4 x5
      obtain ⟨PX, hPX⟩ : ∃ P, dx.pins.length = P := ⟨_, rfl⟩
      rw [hPX] at x2 HX5 HNZ
      have HPX2 := Lib.hid hPX
      clear hPX
      go_wp2_with fail
      refine (HMP.out dx (.slice px PX cx) _ (HX5.out.by blwT) (HZ.out.by blwT) (by have := HPD.out.2.1; omega) (fun e => by have h := HPD.out.1; rw [e] at h; simp at h) (fun p hp => by have := HPD.out.2.2 p hp; rw [HZM.out]; exact this)).mono ?_
      rintro e w1 ⟨v1, rfl, hO1, hb1⟩
      obtain ⟨pv, cv, rfl⟩ := hO1.sl.len
      obtain ⟨PV, hPV⟩ : ∃ P, (normz dx.kind (dx.pins.map (nmOf z))).length = P := ⟨_, rfl⟩
      rw [hPV] at hO1 ⊢
      have HO1 := Lib.hid hO1.sl
      have hbr : Below wr.heap.size wr w1 := blwT
      have kA1 := Blk.by hbr kA
      have kB1 := Blk.by hbr kB
      have HI1 := Lib.hid (HI.out.by hbr)
      have hb1w := below_on hbr hb
      have hs1 := hbr.size
      clear hO1 hPV HNZ hb1 x1 x2 x3 x4 lx qA lA HX5
      have qB := kB1.cell
      have lB := kB1.lt
      go_wp2
      have kO0 : Blk (w1.alloc (.cells #[.int .i64 dx.kind, .slice pv PV cv, .int .i64 dx.wd, .int .i64 dx.len] 54)) w1.heap.size #[.int .i64 dx.kind, .slice pv PV cv, .int .i64 dx.wd, .int .i64 dx.len] 54 := Blk.new _ rfl
      obtain ⟨wo, hwo⟩ : ∃ z : World, z = w1.alloc (.cells #[.int .i64 dx.kind, .slice pv PV cv, .int .i64 dx.wd, .int .i64 dx.len] 54) := ⟨_, rfl⟩
      have hbo1 : Below w1.heap.size w1 wo := by rw [hwo]; exact (Below.refl _ w1).alloc (Nat.le_refl _) _
      rw [← hwo] at kO0 ⊢
      have kA2 := Blk.by hbo1 kA1
      have kB2 := Blk.by hbo1 kB1
      have HI2 := Lib.hid (HI1.out.by hbo1)
      have HO2 := Lib.hid (HO1.out.by hbo1)
      have hbow := below_on hbo1 hb1w
      have hso := hbo1.size
      obtain ⟨O, hO⟩ : ∃ O, w1.heap.size = O := ⟨_, rfl⟩
      rw [hO] at kO0 hso hs1 ⊢
      clear hwo hO HI HI1 HO1 kA kB kA1 kB1 qB lB hbr hb1w hb hbo1
      go_loopw [7, 27] (fun ov kv wz => ∃ q : Nat, q ≤ j0 ∧ ov = .slice ga k c ∧ kv = .int .i64 (q : Int) ∧ Below wo.heap.size wo wz) (fun _ kv _ => j0 - (intOf kv).toNat)
      case atStart => exact ⟨0, Nat.zero_le _, rfl, rfl, blwT⟩
      case round =>
        obtain ⟨q, hq, rfl, rfl, hbo⟩ := hrel
        have hqn : q < n := by omega
        obtain ⟨dy, hy⟩ : ∃ y, ys[q]? = some y := ⟨_, List.getElem?_eq_getElem (by rw [HM.out]; exact hqn)⟩
        have hpy := HPY.out dy (List.mem_of_getElem? hy)
        rcases HY.out with ⟨_, _, _, h2⟩ | ⟨yb, yo, yc, he', _, _, h4'⟩
        · rw [h2] at hy; simp at hy
        obtain ⟨rfl, rfl⟩ : b1 = some ⟨yb, yo, none⟩ ∧ d1 = yc := by
          simp only [Value.slice.injEq] at he'
          exact ⟨he'.1, he'.2.2⟩
        obtain ⟨sy, y1, y2, y3, y4, y5⟩ := (h4' q dy hy).by (below_on hbo hbow)
        obtain ⟨py, cy, rfl⟩ := y5.len
        obtain ⟨PY, hPY⟩ : ∃ P, dy.pins.length = P := ⟨_, rfl⟩
        rw [hPY] at y2 y5 hpy
        have HPY2 := Lib.hid hPY
        have HY5 := Lib.hid y5
        have HYK := Lib.hid hy
        have ly := lt_of_cell y1
        dsimp only at ly
        have j1 : (q : Int) < (n : Int) := by omega
        have j2 : decide (q < n) = true := decide_eq_true hqn
        have kO := Blk.by hbo kO0
        have HIq := Lib.hid (HI2.out.by hbo)
        have HCN := Lib.hid (fun w h => HCT.out (.slice ga k c) (G k) (q : Int) w h (by rw [HGL.out k hk]; omega))
        clear hy he' h4' y5 hPY
        go_upto_region 9 with fail
        obtain ⟨wE, hwE⟩ : ∃ z : World, z = wr.alloc (.cells #[.int .i64 dy.kind, .slice py PY cy, .int .i64 dy.wd, .int .i64 dy.len] 54) := ⟨_, rfl⟩
        have kE : Blk wE wr.heap.size #[.int .i64 dy.kind, .slice py PY cy, .int .i64 dy.wd, .int .i64 dy.len] 54 := by rw [hwE]; exact Blk.new _ rfl
        have hbE : Below wr.heap.size wr wE := by rw [hwE]; exact (Below.refl _ wr).alloc (Nat.le_refl _) _
        (try rw [← hwE])
        have kOE := Blk.by hbE kO
        have HIE := Lib.hid (HIq.out.by hbE)
        have hbEo := below_on hbE hbo
        have HOE := Lib.hid (HO2.out.by hbEo)
        have HYE := Lib.hid (HY5.out.by hbE)
        have hsE := hbE.size
        clear hwE y1 y2 y3 y4 ly HIq HY5 kO hbE
        cases hcn : (G k).contains (q : Int) with
        | true =>
          have hqj : q < j0 := by
            by_cases e : q = j0
            · subst e; rw [HJC.out] at hcn; cases hcn
            · omega
          rw [hcn] at HCN
          clear hcn
          go_quiet ((go_at_call 41; exact Calls.quiet_of_same ((HCN.out _ (HIE.out.own.sl.by (below_of_drewN wE _))).mono fun _ _ h => ⟨h.1, h.2.symm⟩)))
          go_wp2
          exact ⟨⟨q + 1, by omega, by rfl, by go_num, blwT⟩, by simp [intOf]; omega⟩
        | false =>
          rw [hcn] at HCN
          have HCF := Lib.hid hcn
          clear hcn
          obtain ⟨R, hR⟩ : ∃ R, devcmp dx.kind dy.kind (normz dx.kind (dx.pins.map (nmOf z))) (normz dy.kind dy.pins) dx.wd dy.wd dx.len dy.len = R := ⟨_, rfl⟩
          have hC := HCD.out dx dy
          have hZ := HIZ.out dx dy
          rw [hR] at hZ
          have HIR := Lib.hid hZ
          have HRR := Lib.hid hR
          clear hC hZ hR
          have hS : (fun w' : World => Blk w' O #[.int .i64 dx.kind, .slice pv PV cv, .int .i64 dx.wd, .int .i64 dx.len] 54 ∧ Blk w' wr.heap.size #[.int .i64 dy.kind, .slice py PY cy, .int .i64 dy.wd, .int .i64 dy.len] 54) { wE with drawn := wE.drawn + 1 } := ⟨kOE.drew, kE.drew⟩
          refine wp_region_any (by kernel_rfl) (wpAny_of_E (S := fun w' : World => Blk w' O #[.int .i64 dx.kind, .slice pv PV cv, .int .i64 dx.wd, .int .i64 dx.len] 54 ∧ Blk w' wr.heap.size #[.int .i64 dy.kind, .slice py PY cy, .int .i64 dy.wd, .int .i64 dy.len] 54) (l := 10) _ _ _ _ ?_)
          change wpAnyE _ _ _ _ _ _ _ _ _ wE.drew
          refine wpAnyE_takeL (i := 0) (v := ?_) rfl (by kernel_rfl) (fun _ _ _ h => h) (Or.inl ⟨by rfl, ?_⟩) hS ?_
          rotate_left
          · intro w hSw; (try dsimp only at hSw); have qO := hSw.1.cell; have qE := hSw.2.cell; have lO := hSw.1.lt; have lE := hSw.2.lt; clear hSw; go_simp; (try with_reducible rfl)
          try simp only [Act.put, List.setIfInBounds_toArray, List.set_cons_zero, List.set_cons_succ]
          refine wpAnyE_takeL (i := 1) (v := ?_) rfl (by kernel_rfl) (fun _ _ _ h => h) (Or.inl ⟨by rfl, ?_⟩) hS ?_
          rotate_left
          · intro w hSw; (try dsimp only at hSw); have qO := hSw.1.cell; have qE := hSw.2.cell; have lO := hSw.1.lt; have lE := hSw.2.lt; clear hSw; go_simp; (try with_reducible rfl)
          try simp only [Act.put, List.setIfInBounds_toArray, List.set_cons_zero, List.set_cons_succ]
          refine wpAnyE_oneL (k := 2) (by kernel_rfl) rfl (fun K hK => ?_)
          go_simp
          go_at_call 41
          refine (HCN.out _ (HIE.out.own.sl.by (below_of_drewN wE 1))).mono ?_
          rintro e w3 ⟨rfl, rfl⟩
          refine hK.out _ _ (fun _ => hS) ?_
          try simp only [Act.put, List.setIfInBounds_toArray, List.set_cons_zero, List.set_cons_succ]
          refine wpAnyE_takeL (i := 3) (v := ?_) rfl (by kernel_rfl) (fun _ _ _ h => h) (Or.inl ⟨by rfl, ?_⟩) hS ?_
          rotate_left
          · intro w hSw; (try dsimp only at hSw); have qO := hSw.1.cell; have qE := hSw.2.cell; have lO := hSw.1.lt; have lE := hSw.2.lt; clear hSw; go_simp; (try with_reducible rfl)
          try simp only [Act.put, List.setIfInBounds_toArray, List.set_cons_zero, List.set_cons_succ]
          refine wpAnyE_takeL (i := 4) (v := ?_) rfl (by kernel_rfl) (fun _ _ _ h => h) (Or.inl ⟨by rfl, ?_⟩) hS ?_
          rotate_left
          · intro w hSw; (try dsimp only at hSw); have qO := hSw.1.cell; have qE := hSw.2.cell; have lO := hSw.1.lt; have lE := hSw.2.lt; clear hSw; go_simp; (try with_reducible rfl)
          try simp only [Act.put, List.setIfInBounds_toArray, List.set_cons_zero, List.set_cons_succ]
          refine wpAnyE_takeL (i := 5) (v := ?_) rfl (by kernel_rfl) (fun _ _ _ h => h) (Or.inl ⟨by rfl, ?_⟩) hS ?_
          rotate_left
          · intro w hSw; (try dsimp only at hSw); have qO := hSw.1.cell; have qE := hSw.2.cell; have lO := hSw.1.lt; have lE := hSw.2.lt; clear hSw; go_simp; (try with_reducible rfl)
          try simp only [Act.put, List.setIfInBounds_toArray, List.set_cons_zero, List.set_cons_succ]
          refine wpAnyE_takeL (i := 6) (v := ?_) rfl (by kernel_rfl) (fun _ _ _ h => h) (Or.inl ⟨by rfl, ?_⟩) hS ?_
          rotate_left
          · intro w hSw; (try dsimp only at hSw); have qO := hSw.1.cell; have qE := hSw.2.cell; have lO := hSw.1.lt; have lE := hSw.2.lt; clear hSw; go_simp; (try with_reducible rfl)
          try simp only [Act.put, List.setIfInBounds_toArray, List.set_cons_zero, List.set_cons_succ]
          refine wpAnyE_oneL (k := 7) (by kernel_rfl) rfl (fun K hK => ?_)
          go_simp
          go_at_call 22
          refine (HNY.out dy (.slice py PY cy) wE.drew (HYE.out.by (below_of_drewN wE 1)) (by rw [HPY2.out]; omega)).mono ?_
          rintro e w4 ⟨v4, rfl, hO4, hb4⟩
          have hb4E : Below wE.heap.size wE w4 := below_on hb4 (below_of_drewN wE 1)
          have kO4 := Blk.by hb4E kOE
          have kE4 := Blk.by hb4E kE
          have HO4 := Lib.hid hO4.sl
          clear hS hO4 hb4
          refine hK.out _ _ (fun _ => ⟨kO4, kE4⟩) ?_
          try simp only [Act.put, List.setIfInBounds_toArray, List.set_cons_zero, List.set_cons_succ]
          refine wpAnyE_oneL (k := 8) (by kernel_rfl) rfl (fun K hK => ?_)
          go_simp
          go_at_call 20
          refine (HCD.out dx dy _ _ _ _ w4 (HOE.out.by hb4E) HO4.out).mono ?_
          rw [HRR.out]
          rintro e w5 ⟨rfl, hb5⟩
          have hb5E := below_on hb5 hb4E
          have kO5 := Blk.by hb5E kOE
          have kE5 := Blk.by hb5E kE
          refine hK.out _ _ (fun _ => ⟨kO5, kE5⟩) ?_
          try simp only [Act.put, List.setIfInBounds_toArray, List.set_cons_zero, List.set_cons_succ]
          refine wpAnyE_oneL (k := 9) (by kernel_rfl) rfl (fun K hK => ?_)
          go_simp
          refine hK.out _ _ (fun _ => ⟨kO5, kE5⟩) ?_
          try simp only [Act.put, List.setIfInBounds_toArray, List.set_cons_zero, List.set_cons_succ]
          refine wpAnyE_oneL (k := 10) (by kernel_rfl) rfl (fun K hK => ?_)
          go_simp
          refine hK.out _ _ (fun h => absurd rfl h) ?_
          refine wpAnyE_done (by kernel_rfl) ?_ _
          have hbo5 := below_on hb5E hbEo
          have HI5 := Lib.hid (HIE.out.by hb5E)
          clear hb5 hb4E hb5E kO4 kE4 kOE kE HIE HOE HYE HO4 hbEo
          by_cases hqj : q < j0
          · have hiso := HJN.out q hqj HCF.out dx dy HXK.out HYK.out
            have hR0 : ¬ R = 0 := by rw [HIR.out] at hiso; exact of_decide_eq_false hiso
            have e1 : (R == 0) = false := by simpa using hR0
            clear hiso
            go_wp2
            exact ⟨⟨q + 1, by omega, by rfl, by go_num, hbo5⟩, by simp [intOf]; omega⟩
          · obtain rfl : j0 = q := by omega
            have hiso := HJS.out dx dy HXK.out HYK.out
            have hR0 : R = 0 := by rw [HIR.out] at hiso; exact of_decide_eq_true hiso
            have HR0 := Lib.hid hR0
            have hR1 : (R == 0) = true := by simpa using hR0
            have kA5 := Blk.by hbo5 kA2
            have kB5 := Blk.by hbo5 kB2
            have hb5w := below_on hbo5 hbow
            have hs5 := hb5w.size
            have hal : Below w5.heap.size w5 (w5.alloc (.cells #[.int .i64 (j0 : Int)] 2)) := (Below.refl _ w5).alloc (Nat.le_refl _) _
            have HI6 := Lib.hid (HI5.out.by hal)
            have kA6 := Blk.by hal kA5
            have kB6 := Blk.by hal kB5
            have hb6w := below_on hal hb5w
            have hso5 := hbo5.size
            clear hiso hR0 hal kO5 kE5
            go_wp2_with (refine list_pushN (by rfl) _ _ (by rfl) (w.heap.size + 2) hi k (.slice ga k c) (G k) [(j0 : Int)] (HGL.out k hk) (by rfl) HI6.out w5.heap.size 1 #[.int .i64 (j0 : Int)] (by rfl) rfl (by omega) (Blk.new _ rfl) rfl (by omega) (by omega) ?_; intro g9 c9 w9 hI9 hW9; have HI9 := Lib.hid hI9; have kA9 := hW9.blk kA6 (.inl (by omega)); have kB9 := hW9.blk kB6 (.inl (by omega)); have hb9 := hW9.below hb6w (by omega); have hs9 := hW9.size; clear hI9 hW9)
            exact ⟨⟨k + 1, c9, w9.heap.size, g9, by omega, by rfl, by go_num, Lib.hid (by rw [HPP.out]; exact HI9.out), by (try simp only [World.size_alloc] at hs9); omega, Nat.le_refl _, kA9, kB9, hb9⟩, by simp [intOf]; omega⟩
    · obtain rfl : n = k := by omega
      have i1 : ¬ (n : Int) < (n : Int) := by omega
      have HO := Lib.hid HI.out.own
      go_wp2
      go_ret
      exact ⟨_, rfl, OwnR.wide' HO.out (by omega) (by omega), hb⟩
set_option maxRecDepth 100000 in
set_option maxHeartbeats 4000000 in
theorem equalFuncD_any (gf : Nat) (lb : Array Value) (eg : ∀ args w, (callFunc gf args).run Tryz.prog w = .ok (.enter gf args) w) (xs ys : List Dv) (s1 s2 : Value) (w : World) (h : DvSl w s1 xs) (h' : DvSl w s2 ys) (hl : xs.length ≤ 1000) (hl' : ys.length ≤ 1000)
    (hc : ∀ (W : World) (x y : Dv) (sx sy : Value), IntSl W sx x.pins → IntSl W sy y.pins → Calls Tryz.prog gf (#[.agg #[.int .i64 x.kind, sx, .int .i64 x.wd, .int .i64 x.len], .agg #[.int .i64 y.kind, sy, .int .i64 y.wd, .int .i64 y.len]] ++ lb) W fun e w' => e = .returned (.bool (decide (x = y))) ∧ Below W.heap.size W w') :
    Calls Tryz.prog 95 #[s1, s2, .func (.func gf) #[] lb] w fun e w' => e = .returned (.bool (decide (xs = ys))) ∧ Below w.heap.size w w' := by
  have HX := Lib.hid h
  have HY := Lib.hid h'
  have HC := Lib.hid hc
  obtain ⟨a1, c1, rfl⟩ := h.sized
  obtain ⟨a2, c2, rfl⟩ := h'.sized
  clear h h' hc
  by_cases hxy : xs.length = ys.length
  · have HEQ := Lib.hid (show (∀ k, k < xs.length → xs[k]? = ys[k]?) → xs = ys from fun h => List.ext_getElem? (fun i => by
      by_cases hi : i < xs.length
      · exact h i hi
      · rw [show xs[i]? = none by simp; omega, show ys[i]? = none by simp; omega]))
    rw [← hxy] at HY ⊢
    have HL := Lib.hid hxy
    obtain ⟨n, hn⟩ : ∃ n, xs.length = n := ⟨_, rfl⟩
    rw [hn] at HX HY HEQ hl ⊢
    have HN := Lib.hid hn
    clear hxy hn hl'
    go_enter Tryz.func95, Tryz.ntmps95
    go_wp2
    go_loopw [17] (fun i wr => ∃ k : Nat, k ≤ n ∧ i = .int .i64 k ∧ Hid (∀ j, j < k → xs[j]? = ys[j]?) ∧ Below w.heap.size w wr) (fun i _ => n - (intOf i).toNat)
    case atStart => exact ⟨0, Nat.zero_le _, rfl, Lib.hid (by intro j h; omega), blwT⟩
    case round =>
      obtain ⟨k, hk, rfl, HI, hb⟩ := hrel
      by_cases hlt : k < n
      · have i1 : (k : Int) < (n : Int) := by omega
        have i2 : decide (k < n) = true := decide_eq_true hlt
        obtain ⟨x, hx⟩ : ∃ x, xs[k]? = some x := ⟨_, List.getElem?_eq_getElem (by rw [HN.out]; exact hlt)⟩
        obtain ⟨y, hy⟩ : ∃ y, ys[k]? = some y := ⟨_, List.getElem?_eq_getElem (by rw [← HL.out, HN.out]; exact hlt)⟩
        rcases HX.out with ⟨_, _, _, h2⟩ | ⟨xb, xo, xc, he, _, _, h4⟩
        · rw [h2] at hx; simp at hx
        obtain ⟨rfl, rfl⟩ : a1 = some ⟨xb, xo, none⟩ ∧ c1 = xc := by
          simp only [Value.slice.injEq] at he
          exact ⟨he.1, he.2.2⟩
        rcases HY.out with ⟨_, _, _, h2⟩ | ⟨yb, yo, yc, he', _, _, h4'⟩
        · rw [h2] at hy; simp at hy
        obtain ⟨rfl, rfl⟩ : a2 = some ⟨yb, yo, none⟩ ∧ c2 = yc := by
          simp only [Value.slice.injEq] at he'
          exact ⟨he'.1, he'.2.2⟩
        obtain ⟨sx, x1, x2, x3, x4, x5⟩ := (h4 k x hx).by hb
        obtain ⟨sy, y1, y2, y3, y4, y5⟩ := (h4' k y hy).by hb
        have ly := lt_of_cell y1
        dsimp only at ly
        have y1' := cell_by' ((Below.refl _ wr).alloc (Nat.le_refl _) (.cells #[.int .i64 x.kind, sx, .int .i64 x.wd, .int .i64 x.len] 54)) y1
        have y2' := cell_by' ((Below.refl _ wr).alloc (Nat.le_refl _) (.cells #[.int .i64 x.kind, sx, .int .i64 x.wd, .int .i64 x.len] 54)) y2
        have y3' := cell_by' ((Below.refl _ wr).alloc (Nat.le_refl _) (.cells #[.int .i64 x.kind, sx, .int .i64 x.wd, .int .i64 x.len] 54)) y3
        have y4' := cell_by' ((Below.refl _ wr).alloc (Nat.le_refl _) (.cells #[.int .i64 x.kind, sx, .int .i64 x.wd, .int .i64 x.len] 54)) y4
        have HXP := Lib.hid x5
        have HYP := Lib.hid y5
        have HXK := Lib.hid hx
        have HYK := Lib.hid hy
        have hC := fun W => HC.out W x y sx sy
        obtain ⟨px, cx, rfl⟩ := x5.len
        obtain ⟨py, cy, rfl⟩ := y5.len
        obtain ⟨R, hR⟩ : ∃ R : Bool, decide (x = y) = R := ⟨_, rfl⟩
        rw [hR] at hC
        have HCC := Lib.hid hC
        have HDC := Lib.hid hR
        clear hC hR hx hy x5 y5 he he' h4 h4'
        cases R with
        | true =>
          have HI2 := Lib.hid (show ∀ j, j < k + 1 → xs[j]? = ys[j]? from fun j hj => by
            by_cases e : j = k
            · subst e; rw [HXK.out, HYK.out, of_decide_eq_true HDC.out]
            · exact HI.out j (by omega))
          go_wp2_with (go_at_fn gf; refine (HCC.out _ (HXP.out.by blwT) (HYP.out.by blwT)).mono ?_; rintro e w1 ⟨rfl, hb1⟩)
          exact ⟨⟨k + 1, by omega, by go_num, HI2, blwT⟩, by simp [intOf]; omega⟩
        | false =>
          have hne : Hid (¬ xs = ys) := Lib.hid (fun e => by
            have h1 := HXK.out
            rw [e, HYK.out] at h1
            exact of_decide_eq_false HDC.out (Option.some.inj h1).symm)
          go_wp2_with (go_at_fn gf; refine (HCC.out _ (HXP.out.by blwT) (HYP.out.by blwT)).mono ?_; rintro e w1 ⟨rfl, hb1⟩)
          go_ret
          exact ⟨ret_bool (decide_eq_false hne.out).symm, blwT⟩
      · obtain rfl : n = k := by omega
        have i1 : ¬ (n : Int) < (n : Int) := by omega
        have hr := Lib.hid (HEQ.out (fun j hj => HI.out j hj))
        go_wp2
        go_ret
        exact ⟨ret_bool (decide_eq_true hr.out).symm, blwT⟩
  · have hne : ¬ xs = ys := fun e => hxy (by rw [e])
    rw [decide_eq_false hne]
    have e1 : ((xs.length : Int) != (ys.length : Int)) = true := by simp; omega
    have e2 : ((xs.length : Int) == (ys.length : Int)) = false := by simp; omega
    clear hxy hne HX HY
    generalize xs.length = n1 at *
    generalize ys.length = n2 at *
    go_enter Tryz.func95, Tryz.ntmps95
    go_wp2
    go_ret
    exact ⟨rfl, blwT⟩
theorem filt_step {α : Type} {p : α → Bool} {xs : List α} {k : Nat} {x : α} (h : xs[k]? = some x) : (xs.take (k + 1)).filter p = (xs.take k).filter p ++ (if p x = true then [x] else []) := by
  rw [take_snoc_of xs k x h, List.filter_append]
  congr 1
  cases hp : p x <;> simp [hp]
def lowB (n : Nat) (d : Dv) : Bool := d.pins.all fun p => decide (p < (n : Int))
def amB (nets : List Int) (d : Dv) : Bool := d.pins.all fun p => nets.contains p
def mpTo (ds : List Dv) (nets : List Int) (k : Nat) : List Dv := ((ds.take k).filter (lowB nets.length)).map fun d => nzD (renD nets d)
def owTo (es : List Dv) (nets : List Int) (k : Nat) : List Dv := (es.take k).filter (amB nets)
theorem mpTo_step {ds : List Dv} (nets : List Int) {k : Nat} {d : Dv} (h : ds[k]? = some d) : mpTo ds nets (k + 1) = mpTo ds nets k ++ (if lowB nets.length d = true then [nzD (renD nets d)] else []) := by
  unfold mpTo
  rw [filt_step h, List.map_append]
  congr 1
  split <;> rfl
theorem owTo_step {es : List Dv} (nets : List Int) {k : Nat} {d : Dv} (h : es[k]? = some d) : owTo es nets (k + 1) = owTo es nets k ++ (if amB nets d = true then [d] else []) := filt_step h
theorem mpTo_len (ds : List Dv) (nets : List Int) (k : Nat) : (mpTo ds nets k).length ≤ k := by
  unfold mpTo
  rw [List.length_map]
  exact Nat.le_trans (List.length_filter_le _ _) (by rw [List.length_take]; omega)
theorem owTo_len (es : List Dv) (nets : List Int) (k : Nat) : (owTo es nets k).length ≤ k := by
  unfold owTo
  exact Nat.le_trans (List.length_filter_le _ _) (by rw [List.length_take]; omega)
theorem fitI_eq (x y : Nl) (nets : List Int) : fitI x y nets = decide (srtD (mpTo x.ds nets x.ds.length) = srtD (owTo (y.ds.map nzD) nets (y.ds.map nzD).length)) := by
  unfold fitI mpTo owTo lowB amB
  rw [List.take_length, List.take_length]
theorem amB_any (nets : List Int) (d : Dv) : d.pins.any (fun p => !nets.contains p) = !amB nets d := by
  unfold amB
  induction d.pins with
  | nil => rfl
  | cons a l ih => rw [List.any_cons, List.all_cons, ih, Bool.not_and]
theorem lowB_max {n : Nat} {d : Dv} {m : Int} (h1 : m ∈ d.pins) (h2 : ∀ z ∈ d.pins, z ≤ m) : lowB n d = decide (m ≤ (n : Int) - 1) := by
  unfold lowB
  rw [Bool.eq_iff_iff, List.all_eq_true, decide_eq_true_iff]
  constructor
  · intro h
    have := h m h1
    simp at this
    omega
  · intro h p hp
    have := h2 p hp
    simp
    omega
theorem UsedB.drop {w : World} {g n k : Nat} {zs : List Int} (h : UsedB w g n (zs ++ [(k : Int)])) (hk : k < n) (hc : zs.contains (k : Int) = false) : UsedB (w.setCell ⟨g, k, none⟩ (.bool false)) g n zs := by
  obtain ⟨cs, a, b, c⟩ := h
  refine ⟨_, a.set k _, by simpa using b, fun j hj => ?_⟩
  by_cases e : j = k
  · subst e
    rw [Array.getElem?_setIfInBounds_self_of_lt (by omega), hc]
  · rw [Array.getElem?_setIfInBounds_ne (by omega), c j hj]
    congr 2
    rw [List.contains_eq_mem, List.contains_eq_mem]
    refine decide_eq_decide.2 ⟨fun h => ?_, fun h => List.mem_append.2 (.inl h)⟩
    rcases List.mem_append.1 h with h | h
    · exact h
    · rw [List.mem_singleton] at h; omega
def stG (x y : Nl) (col : Nat → Nat → Bool) (n : Nat) (one : Bool) (r : Nat) (nets : List Int) (k : Nat) : List (List Int) :=
  if (col nets.length k && (!nets.contains (k : Int) && fitB x y (nets ++ [(k : Int)]))) = true then srch (fitB x y) col n one r (nets ++ [(k : Int)]) else []
set_option maxRecDepth 100000 in
set_option maxHeartbeats 2000000 in
theorem fits1_any (M U q n p B : Nat) (na nb : Int) (A1 A2 B1 B2 C1 C2 D1 D2 DB NV Y PA PB : Value) (nets : List Int) (w : World) (kB : w.cell? ⟨B, 0, none⟩ = some (.pointer (some ⟨M, 0, none⟩))) (kM : w.cell? ⟨M, 12, none⟩ = some (.slice (some ⟨U, 0, none⟩) n n)) (hU : UsedB w U n nets) (hp : p < n) (hn : n ≤ 1000) :
    Calls Tryz.prog 93 #[.int .i64 (p : Int), .pointer (some ⟨B, 0, none⟩)] w fun e w' => e = .returned (.bool (!nets.contains (p : Int))) ∧ w' = w := by
  obtain ⟨cU, fU, lU⟩ := hU.cell hp
  obtain ⟨R, hR⟩ : ∃ R, nets.contains (p : Int) = R := ⟨_, rfl⟩
  rw [hR] at cU ⊢
  have i1 : (p : Int) < (n : Int) := by omega
  have i2 : decide (p < n) = true := decide_eq_true hp
  clear hU hR fU
  go_enter Tryz.func93, Tryz.ntmps93
  go_wp2
  go_ret
  exact ⟨rfl, rfl⟩
set_option maxRecDepth 100000 in
set_option maxHeartbeats 2000000 in
theorem fits2_any (W : World) (x y : Dv) (sx sy : Value) (hx : IntSl W sx x.pins) (hy : IntSl W sy y.pins) :
    Calls Tryz.prog 96 #[.agg #[.int .i64 x.kind, sx, .int .i64 x.wd, .int .i64 x.len], .agg #[.int .i64 y.kind, sy, .int .i64 y.wd, .int .i64 y.len]] W fun e w' => e = .returned (.bool (decide (x = y))) ∧ Below W.heap.size W w' := by
  have HC := Lib.hid (fun W h h' => compareDevices_any x.kind x.wd x.len y.kind y.wd y.len sx sy x.pins y.pins W h h')
  have HX := Lib.hid hx
  have HY := Lib.hid hy
  have HD := Lib.hid (show decide (x = y) = decide (devcmp x.kind y.kind x.pins y.pins x.wd y.wd x.len y.len = 0) from decide_eq_decide.2 dcf_zero.symm)
  generalize devcmp x.kind y.kind x.pins y.pins x.wd y.wd x.len y.len = R at *
  generalize decide (x = y) = D at *
  obtain ⟨kx, xs, wx, ox⟩ := x
  obtain ⟨ky, ys, wy, oy⟩ := y
  dsimp only at *
  obtain ⟨a, c, rfl⟩ := hx.len
  obtain ⟨a', c', rfl⟩ := hy.len
  generalize xs.length = n1 at *
  generalize ys.length = n2 at *
  clear hx hy
  go_enter Tryz.func96, Tryz.ntmps96
  go_wp2_with fail
  refine (HC.out _ (HX.out.by blwT) (HY.out.by blwT)).mono ?_
  rintro e w1 ⟨rfl, hb1⟩
  go_wp2
  go_ret
  exact ⟨ret_bool (by rw [HD.out, Bool.eq_iff_iff]; simp), blwT⟩
theorem Tr.map_push (L : List Tr) (x : Tr) : (L ++ [x]).map (·.1) = L.map (·.1) ++ [x.1] := by simp
set_option maxRecDepth 100000 in
set_option maxHeartbeats 16000000 in
theorem fits_any (x y : Nl) (nets : List Int) (M U q lo hi m : Nat) (na nb : Int) (A1 A2 B1 B2 C1 C2 D1 D2 DB NV Y PA PB : Value) (w : World) (kM : Blk w M #[.int .i64 na, A1, A2, .int .i64 nb, B1, B2, C1, C2, D1, D2, DB, NV, .slice (some ⟨U, 0, none⟩) q q, Y, PA, PB] 79) (hA : DvSl w A1 x.ds) (hDB : OwnDs w lo hi DB (y.ds.map nzD)) (hhi : hi ≤ w.heap.size) (hN : IntSl w NV nets) (hm : nets.length = m) (hU : UsedB w U q nets)
    (hx : ∀ d ∈ x.ds, 2 ≤ d.pins.length ∧ d.pins.length ≤ 3 ∧ ∀ p ∈ d.pins, 0 ≤ p) (hy : ∀ d ∈ y.ds.map nzD, d.pins.length ≤ 3 ∧ ∀ p ∈ d.pins, 0 ≤ p ∧ p < (q : Int)) (hlx : x.ds.length ≤ 10) (hly : y.ds.length ≤ 10) (hmq : m ≤ 24) (hq : q ≤ 24) :
    Calls Tryz.prog 69 #[.pointer (some ⟨M, 0, none⟩)] w fun e w' => e = .returned (.bool (fitI x y nets)) ∧ Below w.heap.size w w' := by
  rw [fitI_eq]
  have hly' : (y.ds.map nzD).length ≤ 10 := by rw [List.length_map]; exact hly
  generalize y.ds.map nzD = es at *
  obtain ⟨nx, ds, ps⟩ := x
  dsimp only at *
  have HA := Lib.hid hA
  have HDB := Lib.hid hDB
  have HN := Lib.hid hN
  have HU := Lib.hid hU
  have HXP := Lib.hid hx
  have HYP := Lib.hid hy
  obtain ⟨a1, c1, rfl⟩ := hA.sized
  obtain ⟨db, dc, rfl⟩ := hDB.sl.sized
  obtain ⟨an, cn, rfl⟩ := hN.len
  obtain ⟨l1, hl1⟩ : ∃ l, ds.length = l := ⟨_, rfl⟩
  obtain ⟨l2, hl2⟩ : ∃ l, es.length = l := ⟨_, rfl⟩
  rw [hm] at kM HN
  rw [hl1] at kM HA hlx ⊢
  rw [hl2] at kM HDB hly' ⊢
  have HL1 := Lib.hid hl1
  have HL2 := Lib.hid hl2
  have HM := Lib.hid hm
  have HMS := Lib.hid (fun k d h => @mpTo_step ds nets k d h)
  have HOS := Lib.hid (fun k d h => @owTo_step es nets k d h)
  have HML := Lib.hid (mpTo_len ds nets)
  have HOL := Lib.hid (owTo_len es nets)
  have HM0 := Lib.hid (show mpTo ds nets 0 = [] from rfl)
  have HO0 := Lib.hid (show owTo es nets 0 = [] from rfl)
  have HMP := Lib.hid (fun (d : Dv) sx w (h : IntSl w sx d.pins) hn a b c => mappedO_any d nets sx (.slice an m cn) w h hn a b c)
  have HMX := Lib.hid (fun sv zs w h a b => max_any sv zs w h a b)
  have HLB := Lib.hid (fun (d : Dv) (z : Int) a b => @lowB_max nets.length d z a b)
  rw [hm] at HLB HMS
  have HAM := Lib.hid (fun d => amB_any nets d)
  have egc : ∀ args w, (callFunc 93 args).run Tryz.prog w = .ok (.enter 93 args) w := enters_of Tryz.func93 (by kernel_rfl) rfl
  have HCF := Lib.hid (fun B (w : World) sv (zs : List Int) (h : IntSl w sv zs) (kB : w.cell? ⟨B, 0, none⟩ = some (.pointer (some ⟨M, 0, none⟩))) (kM : w.cell? ⟨M, 12, none⟩ = some (.slice (some ⟨U, 0, none⟩) q q)) (hU : UsedB w U q nets) (hz : ∀ z ∈ zs, 0 ≤ z ∧ z < (q : Int)) =>
    containsFuncI_any 93 #[.pointer (some ⟨B, 0, none⟩)] egc (fun z => !nets.contains z) sv zs w h (fun W z hb hz' => by
      obtain ⟨z0, z1⟩ := hz z hz'
      obtain ⟨zn, rfl⟩ : ∃ zn : Nat, z = zn := ⟨z.toNat, by omega⟩
      show Calls Tryz.prog 93 #[.int .i64 (zn : Int), .pointer (some ⟨B, 0, none⟩)] W _
      refine (fits1_any M U q q zn B na nb (.slice a1 l1 c1) A2 B1 B2 C1 C2 D1 D2 (.slice db l2 dc) (.slice an m cn) Y PA PB nets W (cell_by' hb kB) (cell_by' hb kM) (hU.by hb) (by omega) (by omega)).mono ?_
      rintro e w' ⟨rfl, rfl⟩
      exact ⟨rfl, Below.refl _ _⟩))
  have HSF := Lib.hid (fun g n c L w h hn => sortFuncD_any 20 #[] (fun _ _ => rfl) dcmp_impl g n c L w h hn)
  have HEF := Lib.hid (fun xs ys s1 s2 w h h' a b => equalFuncD_any 96 #[] (enters_of Tryz.func96 (by kernel_rfl) rfl) xs ys s1 s2 w h h' a b (fun W x y sx sy hx hy => fits2_any W x y sx sy hx hy))
  have hmf : ∀ (fn : Fn) (first cap : Array Value) (w : World), (Instr.makeFunc fn first cap).run Tryz.prog w = .ok (.func fn first cap) w := fun _ _ _ _ => rfl
  have HHI := Lib.hid hhi
  clear hA hDB hN hU hx hy hl1 hl2 hm hly egc hhi
  have kM0 : Blk ((w.alloc (.cells #[.pointer (some ⟨M, 0, none⟩)] 73)).alloc (.cells #[] 54)) M #[.int .i64 na, .slice a1 l1 c1, A2, .int .i64 nb, B1, B2, C1, C2, D1, D2, .slice db l2 dc, .slice an m cn, .slice (some ⟨U, 0, none⟩) q q, Y, PA, PB] 79 := (kM.past _).past _
  have kB0 : Blk ((w.alloc (.cells #[.pointer (some ⟨M, 0, none⟩)] 73)).alloc (.cells #[] 54)) w.heap.size #[.pointer (some ⟨M, 0, none⟩)] 73 := (Blk.new _ rfl).past _
  have kR0 : RB ((w.alloc (.cells #[.pointer (some ⟨M, 0, none⟩)] 73)).alloc (.cells #[] 54)) (w.heap.size + 1) 0 0 [] := RB.lit (Blk.new _ (by simp))
  have hM := kM.lt
  have cM := kM.cell
  go_enter Tryz.func69, Tryz.ntmps69
  go_wp2
  clear cM
  go_loopw [4, 23] (fun ov iv wr => ∃ (k g n c : Nat) (L : List Tr), k ≤ l1 ∧ ov = .slice (some ⟨g, 0, none⟩) n c ∧ iv = .int .i64 (k : Int) ∧ Hid (RB wr g n c L) ∧ n ≤ k ∧ Hid (L.map (·.1) = mpTo ds nets k) ∧ w.heap.size < g ∧ g < wr.heap.size ∧ Blk wr w.heap.size #[.pointer (some ⟨M, 0, none⟩)] 73 ∧ Below w.heap.size w wr) (fun _ iv _ => l1 - (intOf iv).toNat)
  case atStart => exact ⟨0, w.heap.size + 1, 0, 0, [], Nat.zero_le _, rfl, rfl, Lib.hid kR0, Nat.le_refl _, Lib.hid HM0.out.symm, by omega, by simp, kB0, blwT⟩
  case round =>
    clear kM0 kB0 kR0
    obtain ⟨k, g, n, c, L, hk, rfl, rfl, HR, hnk, HL, hg, hgs, kB, hb⟩ := hrel
    have kMr := Blk.by hb kM
    by_cases hlt : k < l1
    · obtain ⟨d, hd⟩ : ∃ d, ds[k]? = some d := ⟨_, List.getElem?_eq_getElem (by rw [HL1.out]; exact hlt)⟩
      have hdp := HXP.out d (List.mem_of_getElem? hd)
      have HST := Lib.hid (HMS.out k d hd)
      rcases HA.out with ⟨_, _, _, h2⟩ | ⟨xb, xo, xc, he, _, _, h4⟩
      · rw [h2] at hd; simp at hd
      obtain ⟨rfl, rfl⟩ : a1 = some ⟨xb, xo, none⟩ ∧ c1 = xc := by
        simp only [Value.slice.injEq] at he
        exact ⟨he.1, he.2.2⟩
      obtain ⟨sx, x1, x2, x3, x4, x5⟩ := (h4 k d hd).by hb
      obtain ⟨px, cx, rfl⟩ := x5.len
      have HDP := Lib.hid hdp
      have HX5 := Lib.hid x5
      have HLBD := Lib.hid (fun z => HLB.out d z)
      obtain ⟨kd, pins, wd, ln⟩ := d
      dsimp only at *
      obtain ⟨P, hP⟩ : ∃ P, pins.length = P := ⟨_, rfl⟩
      rw [hP] at x2 HX5
      have HPL := Lib.hid hP
      have i1 : (k : Int) < (l1 : Int) := by omega
      have i2 : decide (k < l1) = true := decide_eq_true hlt
      have lx := lt_of_cell x1
      dsimp only at lx
      have cB := kB.cell
      have lB := kB.lt
      have cMr := kMr.cell
      have lMr := kMr.lt
      clear hd he h4 x5 hP hdp
      have hl3 : P ≤ 3 := by have := HDP.out.2.1; rw [HPL.out] at this; exact this
      go_wp2_with fail
      refine (HMX.out _ _ _ (HX5.out.by blwT) (fun e => by have h := HPL.out; have h' := HDP.out.1; rw [e] at h'; simp at h') (by rw [HPL.out]; omega)).mono ?_
      rintro e w1 ⟨mx, rfl, hm1, hm2, rfl⟩
      have HB1 := Lib.hid (HLBD.out mx hm1 hm2)
      have HLW := Lib.hid (show mx ≤ (m : Int) - 1 → ∀ z ∈ pins, 0 ≤ z ∧ z < (m : Int) from fun h z hz => by
        have h1 := hm2 z hz
        have h2 := HDP.out.2.2 z hz
        exact ⟨h2, by omega⟩)
      obtain ⟨wE, hwE⟩ : ∃ z : World, z = wr.alloc (.cells #[.int .i64 kd, .slice px P cx, .int .i64 wd, .int .i64 ln] 54) := ⟨_, rfl⟩
      have kD : Blk wE wr.heap.size #[.int .i64 kd, .slice px P cx, .int .i64 wd, .int .i64 ln] 54 := by rw [hwE]; exact Blk.new _ rfl
      have hbE : Below wr.heap.size wr wE := by rw [hwE]; exact (Below.refl _ wr).alloc (Nat.le_refl _) _
      have hsE : wr.heap.size < wE.heap.size := by rw [hwE]; simp
      (try rw [← hwE])
      have kBE := Blk.by hbE kB
      have kME := Blk.by hbE kMr
      have HRE := Lib.hid (HR.out.by hbE)
      have hbEw := below_on hbE hb
      clear hwE hm1 hm2 x1 x2 x3 x4 lx cB lB cMr lMr HMX
      by_cases hmx : mx ≤ (m : Int) - 1
      · have HB2 := HB1.out
        rw [decide_eq_true hmx] at HB2
        rw [HB2, if_pos rfl] at HST
        have HLW2 := Lib.hid (HLW.out hmx)
        clear HB2 HLW HLBD HB1
        go_upto_region 7 with fail
        have hS : (fun w' : World => Blk w' wr.heap.size #[.int .i64 kd, .slice px P cx, .int .i64 wd, .int .i64 ln] 54 ∧ Blk w' w.heap.size #[.pointer (some ⟨M, 0, none⟩)] 73 ∧ Blk w' M #[.int .i64 na, .slice (some ⟨xb, xo, none⟩) l1 c1, A2, .int .i64 nb, B1, B2, C1, C2, D1, D2, .slice db l2 dc, .slice an m cn, .slice (some ⟨U, 0, none⟩) q q, Y, PA, PB] 79) { wE with drawn := wE.drawn + 1 } := ⟨kD.drew, kBE.drew, kME.drew⟩
        refine wp_region_any (by kernel_rfl) (wpAny_of_E (S := fun w' : World => Blk w' wr.heap.size #[.int .i64 kd, .slice px P cx, .int .i64 wd, .int .i64 ln] 54 ∧ Blk w' w.heap.size #[.pointer (some ⟨M, 0, none⟩)] 73 ∧ Blk w' M #[.int .i64 na, .slice (some ⟨xb, xo, none⟩) l1 c1, A2, .int .i64 nb, B1, B2, C1, C2, D1, D2, .slice db l2 dc, .slice an m cn, .slice (some ⟨U, 0, none⟩) q q, Y, PA, PB] 79) (l := 9) _ _ _ _ ?_)
        change wpAnyE _ _ _ _ _ _ _ _ _ wE.drew
        refine wpAnyE_takeL (i := 0) (v := ?_) rfl (by kernel_rfl) (fun _ _ _ h => h) (Or.inl ⟨by rfl, ?_⟩) hS ?_
        rotate_left
        · intro w hSw; (try dsimp only at hSw); have qD := hSw.1.cell; have qB := hSw.2.1.cell; have qM := hSw.2.2.cell; have lD := hSw.1.lt; have lB := hSw.2.1.lt; have lM := hSw.2.2.lt; clear hSw; go_simp; (try with_reducible rfl)
        try simp only [Act.put, List.setIfInBounds_toArray, List.set_cons_zero, List.set_cons_succ]
        refine wpAnyE_takeL (i := 1) (v := ?_) rfl (by kernel_rfl) (fun _ _ _ h => h) (Or.inl ⟨by rfl, ?_⟩) hS ?_
        rotate_left
        · intro w hSw; (try dsimp only at hSw); have qD := hSw.1.cell; have qB := hSw.2.1.cell; have qM := hSw.2.2.cell; have lD := hSw.1.lt; have lB := hSw.2.1.lt; have lM := hSw.2.2.lt; clear hSw; go_simp; (try with_reducible rfl)
        try simp only [Act.put, List.setIfInBounds_toArray, List.set_cons_zero, List.set_cons_succ]
        refine wpAnyE_takeL (i := 2) (v := ?_) rfl (by kernel_rfl) (fun _ _ _ h => h) (Or.inl ⟨by rfl, ?_⟩) hS ?_
        rotate_left
        · intro w hSw; (try dsimp only at hSw); have qD := hSw.1.cell; have qB := hSw.2.1.cell; have qM := hSw.2.2.cell; have lD := hSw.1.lt; have lB := hSw.2.1.lt; have lM := hSw.2.2.lt; clear hSw; go_simp; (try with_reducible rfl)
        try simp only [Act.put, List.setIfInBounds_toArray, List.set_cons_zero, List.set_cons_succ]
        refine wpAnyE_takeL (i := 3) (v := ?_) rfl (by kernel_rfl) (fun _ _ _ h => h) (Or.inl ⟨by rfl, ?_⟩) hS ?_
        rotate_left
        · intro w hSw; (try dsimp only at hSw); have qD := hSw.1.cell; have qB := hSw.2.1.cell; have qM := hSw.2.2.cell; have lD := hSw.1.lt; have lB := hSw.2.1.lt; have lM := hSw.2.2.lt; clear hSw; go_simp; (try with_reducible rfl)
        try simp only [Act.put, List.setIfInBounds_toArray, List.set_cons_zero, List.set_cons_succ]
        refine wpAnyE_takeL (i := 4) (v := ?_) rfl (by kernel_rfl) (fun _ _ _ h => h) (Or.inl ⟨by rfl, ?_⟩) hS ?_
        rotate_left
        · intro w hSw; (try dsimp only at hSw); have qD := hSw.1.cell; have qB := hSw.2.1.cell; have qM := hSw.2.2.cell; have lD := hSw.1.lt; have lB := hSw.2.1.lt; have lM := hSw.2.2.lt; clear hSw; go_simp; (try with_reducible rfl)
        try simp only [Act.put, List.setIfInBounds_toArray, List.set_cons_zero, List.set_cons_succ]
        refine wpAnyE_takeL (i := 5) (v := ?_) rfl (by kernel_rfl) (fun _ _ _ h => h) (Or.inl ⟨by rfl, ?_⟩) hS ?_
        rotate_left
        · intro w hSw; (try dsimp only at hSw); have qD := hSw.1.cell; have qB := hSw.2.1.cell; have qM := hSw.2.2.cell; have lD := hSw.1.lt; have lB := hSw.2.1.lt; have lM := hSw.2.2.lt; clear hSw; go_simp; (try with_reducible rfl)
        try simp only [Act.put, List.setIfInBounds_toArray, List.set_cons_zero, List.set_cons_succ]
        refine wpAnyE_oneL (k := 6) (by kernel_rfl) rfl (fun K hK => ?_)
        go_simp
        go_at_call 21
        refine (HMP.out ⟨kd, pins, wd, ln⟩ (.slice px P cx) wE.drew ((HX5.out.by hbE).by (below_of_drewN wE 1)) ((HN.out.by hbEw).by (below_of_drewN wE 1)) (by dsimp only; rw [HPL.out]; exact hl3) (fun e => by have h' := HDP.out.1; dsimp only at e; rw [e] at h'; simp at h') (by dsimp only; rw [HM.out]; exact HLW2.out)).mono ?_
        rintro e w3 ⟨v3, rfl, hO3, hb3⟩
        have hb3E : Below wE.heap.size wE w3 := below_on hb3 (below_of_drewN wE 1)
        have kD3 := Blk.by hb3E kD
        have kB3 := Blk.by hb3E kBE
        have kM3 := Blk.by hb3E kME
        have hs3 := hb3E.size
        obtain ⟨f, hf1, hf2, hOf⟩ := OwnI.pin hO3 (fun e => by have h' := congrArg List.length e; rw [length_normz, List.length_map] at h'; dsimp only at h'; have := HDP.out.1; rw [HPL.out] at this h'; simp at h'; omega)
        have hf3 : wE.heap.size ≤ f := hf1
        dsimp only at hOf ⊢
        have HOF := Lib.hid hOf
        clear hS hO3 hOf hb3 hf1
        refine hK.out _ _ (fun _ => ⟨kD3, kB3, kM3⟩) ?_
        try simp only [Act.put, List.setIfInBounds_toArray, List.set_cons_zero, List.set_cons_succ]
        refine wpAnyE_oneL (k := 7) (by kernel_rfl) rfl (fun K hK => ?_)
        go_simp
        have kZ4 : Blk (w3.alloc (.cells #[.int .i64 kd, v3, .int .i64 wd, .int .i64 ln] 54)) w3.heap.size #[.int .i64 kd, v3, .int .i64 wd, .int .i64 ln] 54 := Blk.new _ rfl
        have hb4 : Below w3.heap.size w3 (w3.alloc (.cells #[.int .i64 kd, v3, .int .i64 wd, .int .i64 ln] 54)) := (Below.refl _ w3).alloc (Nat.le_refl _) _
        have hs4 : w3.heap.size < (w3.alloc (.cells #[.int .i64 kd, v3, .int .i64 wd, .int .i64 ln] 54)).heap.size := by simp
        have kD4 := Blk.by hb4 kD3
        have kB4 := Blk.by hb4 kB3
        have kM4 := Blk.by hb4 kM3
        have HOF4 := Lib.hid (OwnR.by hb4 HOF.out)
        have HR4 := Lib.hid ((HRE.out.by hb3E).by hb4)
        have hb4w := below_on hb4 (below_on hb3E hbEw)
        obtain ⟨Z4, hZ4⟩ : ∃ Z, w3.heap.size = Z := ⟨_, rfl⟩
        rw [hZ4] at kZ4 hs4 hs3 hf2 ⊢
        clear HOF hb4 hb3E kD3 kB3 kM3
        generalize w3.alloc (.cells #[.int .i64 kd, v3, .int .i64 wd, .int .i64 ln] 54) = w4 at *
        refine hK.out _ _ (fun _ => ⟨kD4, kB4, kM4⟩) ?_
        try simp only [Act.put, List.setIfInBounds_toArray, List.set_cons_zero, List.set_cons_succ]
        refine wpAnyE_oneL (k := 8) (by kernel_rfl) rfl (fun K hK => ?_)
        refine step_pushR (by rfl) _ _ (by rfl) g n c L (by rfl) HR4.out Z4 ⟨kd, normz kd (pins.map (nmOf nets)), wd, ln⟩ v3 f (by rfl) kZ4 HOF4.out (by omega) (by omega) (by omega) ?_
        intro g5 c5 w5 hR5 hgr hg5
        have hE5 := grown_exc hgr
        have kD5 := hE5.blk kD4 (show ¬ wr.heap.size = g by omega)
        have kB5 := hE5.blk kB4 (show ¬ w.heap.size = g by omega)
        have kM5 := hE5.blk kM4 (show ¬ M = g by omega)
        have hb5w : Below w.heap.size w w5 := hE5.below hb4w (fun q hq (e : q = g) => by omega)
        have hs5 := hE5.size
        have HR5 := Lib.hid hR5
        have hg5' : w.heap.size < g5 ∧ g5 < w5.heap.size := ⟨by omega, hR5.2.2.1⟩
        clear hR5 hgr hE5 kD4 kB4 kM4 hb4w
        refine hK.out _ _ (fun _ => ⟨kD5, kB5, kM5⟩) ?_
        try simp only [Act.put, List.setIfInBounds_toArray, List.set_cons_zero, List.set_cons_succ]
        refine wpAnyE_oneL (k := 9) (by kernel_rfl) rfl (fun K hK => ?_)
        go_simp
        refine hK.out _ _ (fun h => absurd rfl h) ?_
        refine wpAnyE_done (by kernel_rfl) ?_ _
        clear HR4 HRE HOF4
        go_wp2
        exact ⟨⟨k + 1, g5, n + 1, c5, L ++ [(⟨kd, normz kd (pins.map (nmOf nets)), wd, ln⟩, v3, f)], by omega, by rfl, by go_num, HR5, by omega, Lib.hid (by rw [HST.out, Tr.map_push, HL.out]; rfl), hg5'.1, hg5'.2, kB5, hb5w⟩, by simp [intOf]; omega⟩
      · have HB2 := HB1.out
        rw [decide_eq_false hmx] at HB2
        rw [HB2, if_neg (by simp), List.append_nil] at HST
        have hmx' : (m : Int) - 1 < mx := by omega
        clear HB2 HLW HLBD HB1
        go_wp2
        exact ⟨⟨k + 1, g, n, c, L, by omega, by rfl, by go_num, HRE, by omega, Lib.hid (by rw [HST.out]; exact HL.out), by omega, by omega, kBE, hbEw⟩, by simp [intOf]; omega⟩
    · obtain rfl : l1 = k := by omega
      have i1 : ¬ (l1 : Int) < (l1 : Int) := by omega
      have cB := kB.cell
      have lB := kB.lt
      have cMr := kMr.cell
      have lMr := kMr.lt
      have hnl : n ≤ 10 := by omega
      obtain ⟨wo, rfl⟩ : ∃ z : World, z = wr := ⟨_, rfl⟩
      have kR20 : RB (wo.alloc (.cells #[] 54)) wo.heap.size 0 0 [] := RB.lit (Blk.new _ rfl)
      have hLw : ∀ t ∈ L, t.2.2 < wo.heap.size := fun t ht => (HR.out.2.2.2 t ht).2.1
      have HLW := Lib.hid hLw
      clear hLw
      go_wp2
      clear cB lB cMr lMr
      go_loopw [7, 48] (fun ov iv wr => ∃ (k g2 n2 c2 : Nat) (L2 : List Tr), k ≤ l2 ∧ ov = .slice (some ⟨g2, 0, none⟩) n2 c2 ∧ iv = .int .i64 (k : Int) ∧ Hid (RB wr g2 n2 c2 L2) ∧ n2 ≤ k ∧ Hid (L2.map (·.1) = owTo es nets k) ∧ wo.heap.size ≤ g2 ∧ g2 < wr.heap.size ∧ Hid (∀ t ∈ L2, t.2.2 < w.heap.size) ∧ Blk wr w.heap.size #[.pointer (some ⟨M, 0, none⟩)] 73 ∧ Below wo.heap.size wo wr) (fun _ iv _ => l2 - (intOf iv).toNat)
      case atStart => exact ⟨0, wo.heap.size, 0, 0, [], Nat.zero_le _, rfl, rfl, Lib.hid kR20, Nat.le_refl _, Lib.hid HO0.out.symm, Nat.le_refl _, by simp, Lib.hid (by simp), kB.past _, blwT⟩
      case round =>
        clear kR20 kB kMr
        obtain ⟨k, g2, n2, c2, L2, hk, rfl, rfl, HR2, hnk2, HL2', hg2, hgs2, HT2, kB, hbo⟩ := hrel
        have hbw := below_on hbo hb
        have kMr := Blk.by hbw kM
        by_cases hlt : k < l2
        · obtain ⟨d, hd⟩ : ∃ d, es[k]? = some d := ⟨_, List.getElem?_eq_getElem (by rw [HL2.out]; exact hlt)⟩
          have hdp := HYP.out d (List.mem_of_getElem? hd)
          have HST := Lib.hid (HOS.out k d hd)
          obtain ⟨gd, gc, f, pv, hex, lx, x1, x2, x3, x4, hOR, hf1, hf2⟩ := OwnDs.atE (HDB.out.by hbw) hd
          obtain ⟨rfl, rfl⟩ : db = some ⟨gd, 0, none⟩ ∧ dc = gc := by
            simp only [Value.slice.injEq] at hex
            exact ⟨hex.1, hex.2.2⟩
          have hfw : f < w.heap.size := by have := HHI.out; omega
          have HAMD := Lib.hid (HAM.out d)
          have HDP := Lib.hid hdp
          have HOR := Lib.hid hOR
          obtain ⟨px, cx, rfl⟩ := hOR.sl.len
          obtain ⟨kd, pins, wd, ln⟩ := d
          dsimp only at *
          obtain ⟨P, hP⟩ : ∃ P, pins.length = P := ⟨_, rfl⟩
          rw [hP] at x2 HOR
          have HPL := Lib.hid hP
          have i1 : (k : Int) < (l2 : Int) := by omega
          have i2 : decide (k < l2) = true := decide_eq_true hlt
          have cB := kB.cell
          have lB := kB.lt
          obtain ⟨AB, hAB⟩ : ∃ A, amB nets ⟨kd, pins, wd, ln⟩ = A := ⟨_, rfl⟩
          rw [hAB] at HAMD HST
          clear hd hex hP hdp hOR hAB
          go_wp2_with fail
          obtain ⟨wE, hwE⟩ : ∃ z : World, z = wr.alloc (.cells #[.int .i64 kd, .slice px P cx, .int .i64 wd, .int .i64 ln] 54) := ⟨_, rfl⟩
          have kD : Blk wE wr.heap.size #[.int .i64 kd, .slice px P cx, .int .i64 wd, .int .i64 ln] 54 := by rw [hwE]; exact Blk.new _ rfl
          have hbE : Below wr.heap.size wr wE := by rw [hwE]; exact (Below.refl _ wr).alloc (Nat.le_refl _) _
          have hsE : wr.heap.size < wE.heap.size := by rw [hwE]; simp
          (try rw [← hwE])
          have kBE := Blk.by hbE kB
          have kME := Blk.by hbE kMr
          have HRE := Lib.hid (HR2.out.by hbE)
          have hbEo := below_on hbE hbo
          have hbEw := below_on hbE hbw
          have HORE := Lib.hid (OwnR.by hbE HOR.out)
          clear hwE x1 x2 x3 x4 cB lB HOR
          refine (HCF.out w.heap.size wE (.slice px P cx) pins HORE.out.sl (kBE.cell 0) (kME.cell 12) (HU.out.by hbEw) HDP.out.2).mono ?_
          rintro e w1 ⟨rfl, hb1⟩
          rw [HAMD.out]
          have kD1 := Blk.by hb1 kD
          have kB1 := Blk.by hb1 kBE
          have HR1 := Lib.hid (HRE.out.by hb1)
          have HOR1 := Lib.hid (OwnR.by hb1 HORE.out)
          have hb1o := below_on hb1 hbEo
          have hs1 := hb1.size
          have qD := kD1.cell
          have lD := kD1.lt
          clear hb1 kD kBE kME HRE HORE hbEo hbEw hbE
          cases AB with
          | true =>
            rw [if_pos rfl] at HST
            have kZ2 : Blk (w1.alloc (.cells #[.int .i64 kd, .slice px P cx, .int .i64 wd, .int .i64 ln] 54)) w1.heap.size #[.int .i64 kd, .slice px P cx, .int .i64 wd, .int .i64 ln] 54 := Blk.new _ rfl
            have hb2 : Below w1.heap.size w1 (w1.alloc (.cells #[.int .i64 kd, .slice px P cx, .int .i64 wd, .int .i64 ln] 54)) := (Below.refl _ w1).alloc (Nat.le_refl _) _
            have HR2b := Lib.hid (HR1.out.by hb2)
            have HOR2 := Lib.hid (OwnR.by hb2 HOR1.out)
            have kB2 := Blk.by hb2 kB1
            have hb2o := below_on hb2 hb1o
            have hso := hbo.size
            have hsw := hb.size
            go_wp2_with (refine list_pushR (by rfl) _ _ (by rfl) g2 n2 c2 L2 (by rfl) HR2b.out w1.heap.size ⟨kd, pins, wd, ln⟩ (.slice px P cx) f (by rfl) kZ2 HOR2.out (by simp; omega) (by omega) (by omega) ?_; intro g5 c5 w5 hR5 hgr hg5; have hE5 := grown_exc hgr; have kB5 := hE5.blk kB2 (show ¬ w.heap.size = g2 by omega); have hb5o : Below wo.heap.size wo w5 := hE5.below hb2o (fun q hq (e : q = g2) => by omega); have HR5 := Lib.hid hR5; have hg5' : wo.heap.size ≤ g5 ∧ g5 < w5.heap.size := ⟨by (try simp only [World.size_alloc] at hg5); omega, hR5.2.2.1⟩; clear hR5 hgr hE5)
            exact ⟨⟨k + 1, g5, n2 + 1, c5, L2 ++ [(⟨kd, pins, wd, ln⟩, .slice px P cx, f)], by omega, by rfl, by go_num, HR5, by omega, Lib.hid (by rw [HST.out, Tr.map_push, HL2'.out]), hg5'.1, hg5'.2, Lib.hid (fun t ht => by
              rcases List.mem_append.1 ht with ht | ht
              · exact HT2.out t ht
              · rw [List.mem_singleton] at ht; rw [ht]; exact hfw), kB5, hb5o⟩, by simp [intOf]; omega⟩
          | false =>
            rw [if_neg (by simp), List.append_nil] at HST
            go_wp2
            exact ⟨⟨k + 1, g2, n2, c2, L2, by omega, by rfl, by go_num, HR1, by omega, Lib.hid (by rw [HST.out]; exact HL2'.out), by omega, by omega, HT2, kB1, hb1o⟩, by simp [intOf]; omega⟩
        · obtain rfl : l2 = k := by omega
          have i1 : ¬ (l2 : Int) < (l2 : Int) := by omega
          have hso := hbo.size
          have hsw := hb.size
          have HRz := Lib.hid (HR.out.by hbo)
          obtain ⟨_, _, hnc1, hcm1, _⟩ := HR.out.cells
          obtain ⟨_, _, hnc2, hcm2, _⟩ := HR2.out.cells
          go_wp2_with fail
          refine (HSF.out g n c L _ HRz.out (by omega)).mono ?_
          rintro e w1 ⟨rfl, ⟨d1, hD1, hz1, hm1, hp1⟩, hW1⟩
          have hE1 : Exc (fun k => k = g) wr w1 := Exc.ofWithin hW1 (fun q h1 h2 => by omega)
          have HR3 := Lib.hid (RB.exc hE1 HR2.out (show ¬ g2 = g by omega) (fun t ht (e : t.2.2 = g) => by have := HT2.out t ht; omega))
          have hb1o : Below wo.heap.size wo w1 → True := fun _ => trivial
          have hb1w : Below w.heap.size w w1 := hE1.below hbw (fun q hq (e : q = g) => by omega)
          have HD1 := Lib.hid hD1
          have HZ1 := Lib.hid hz1
          have HM1 := Lib.hid hm1
          have HP1 := Lib.hid hp1
          clear hD1 hz1 hm1 hp1 hW1 hE1 hb1o
          go_wp2_with fail
          refine (HSF.out g2 n2 c2 L2 _ HR3.out (by omega)).mono ?_
          rintro e w2 ⟨rfl, ⟨d2, hD2, hz2, hm2, hp2⟩, hW2⟩
          have hE2 : Exc (fun k => k = g2) w1 w2 := Exc.ofWithin hW2 (fun q h1 h2 => by omega)
          have hD1 := DRow.exc hE2 HD1.out (show ¬ g = g2 by omega) (fun q hq (e : q = g2) => by
            obtain ⟨t, ht, e2⟩ := List.mem_map.1 (HP1.out q hq)
            have := HLW.out t ht
            (try dsimp only at e2)
            omega)
          have hb2w : Below w.heap.size w w2 := hE2.below hb1w (fun q hq (e : q = g2) => by omega)
          have hS1 := hD1.sl (cap := c) (by rw [HZ1.out]; exact hnc1) hcm1
          have hS2 := hD2.sl (cap := c2) (by rw [hz2]; exact hnc2) hcm2
          rw [HZ1.out, HM1.out] at hS1
          rw [hz2, hm2] at hS2
          have HS1 := Lib.hid hS1
          have HS2 := Lib.hid hS2
          clear hE2 hD1 hS1 hS2 hD2 hz2 hm2 hp2 hW2
          go_wp2_with fail
          refine (HEF.out _ _ _ _ _ HS1.out HS2.out (by rw [length_srtD, List.length_map, HR.out.2.1]; omega) (by rw [length_srtD, List.length_map, HR2.out.2.1]; omega)).mono ?_
          rintro e w3 ⟨rfl, hb3⟩
          have hb3w := below_on hb3 hb2w
          go_wp2
          go_ret
          exact ⟨ret_bool (by rw [HL.out, HL2'.out]), hb3w⟩
end Go.Proofs.YtehmiekendkjmaaGreat
