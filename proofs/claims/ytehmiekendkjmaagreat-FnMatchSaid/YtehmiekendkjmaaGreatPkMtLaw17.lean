/- Contracts and plain laws, part 17, for the statement's proof. -/
import Derived.Test.YtehmiekendkjmaaGreatPkMtLaw16
import Derived.Deep.DeepCutAuto
import Derived.Deep.CutRange
namespace Go.Proofs.YtehmiekendkjmaaGreat
open Go.RowKit
set_option linter.unusedVariables false
set_option linter.unusedSimpArgs false
theorem nlV_dp {w : World} {nets : Int} {s1 s2 : Value} {x : Nl} (h : NlV w (.agg #[.int .i64 nets, s1, s2]) x) : DvSl w s1 x.ds ∧ PtSl w s2 x.ps := by
  obtain ⟨t1, t2, e, h1, h2⟩ := h
  simp only [Value.agg.injEq, Array.mk.injEq, List.cons.injEq, and_true] at e
  obtain ⟨_, rfl, rfl⟩ := e
  exact ⟨h1, h2⟩
structure YldC (x y : Nl) (one : Bool) (v u : Value) (gY : Nat) (lY : Array Value) (Y : Nat → Prop) (Yd : List (List Int) → World → Prop) (w0 : World) : Prop where
  hV : ∀ w, Exc Y w0 w → NlV w v x
  hU : ∀ w, Exc Y w0 w → NlV w u y
  hYl : ∀ b, Y b → b < w0.heap.size
  eg : ∀ args w, (callFunc gY args).run Tryz.prog w = .ok (.enter gY args) w
  hY : preB x y = true → ∀ (zs : List (List Int)) (z : List Int) (sv : Value) (w : World), Yd zs w → (one = true → zs = []) → Exc Y w0 w → IntSl w sv z → goodN x.nets.toNat z → z.length = x.nets.toNat → fitB x y z = true → Calls Tryz.prog gY (#[sv] ++ lY) w fun e w' => e = .returned (.bool (!one)) ∧ Yd (zs ++ [z]) w' ∧ Exc Y w w'
  hYs : ∀ (zs : List (List Int)) (w w' : World), Yd zs w → (one = true → zs = []) → Exc (fun b => w0.heap.size ≤ b) w w' → Yd zs w'
  h0 : Yd [] w0
def MtO (wo w : World) (n : Nat) (x y : Nl) (cells : Nat → Nat → Nat → Array Value) (mv : Value) : Prop := ∃ (M U NA NB la ha lb hb : Nat), mv = .pointer (some ⟨M, 0, none⟩) ∧ Blk w M (cells U NA NB) 79 ∧ UsedB w U n [] ∧ LlIn w la ha (.slice (some ⟨NA, 0, none⟩) n n) (netL x n) ∧ LlIn w lb hb (.slice (some ⟨NB, 0, none⟩) n n) (netL y n) ∧ M ≠ U ∧
  (∀ k, la ≤ k → k < ha → k ≠ M ∧ k ≠ U) ∧ (∀ k, lb ≤ k → k < hb → k ≠ M ∧ k ≠ U) ∧ (wo.heap.size ≤ M ∧ wo.heap.size ≤ U ∧ M < w.heap.size ∧ U < w.heap.size) ∧ (wo.heap.size ≤ la ∧ wo.heap.size ≤ lb ∧ ha ≤ w.heap.size ∧ hb ≤ w.heap.size) ∧ Below wo.heap.size wo w
theorem step_pushDN {ops : Array Oper} {o : Oper} {a : Act} {w : World} {K : Act → World → Prop} {Q : Exit → Act → World → Prop} {E : Prop} (hgd : o.guard = none) (s x : Operand)
    (ho : o.op = .call { callee := .builtin .append, args := #[s, x], argTypes := #[24, 24] })
    (lo hi N : Nat) (v : Value) (ds : List Dv) (hN : ds.length = N) (hs : a.eval s = v) (hB : Bld w lo hi v ds) (nb : Nat) (d : Dv) (pv : Value) (fb : Nat) (hx : a.eval x = .slice (some ⟨nb, 0, none⟩) 1 1)
    (hnb : Blk w nb #[.int .i64 d.kind, pv, .int .i64 d.wd, .int .i64 d.len] 54) (hpv : OwnR w fb (fb + 1) pv d.pins) (hlo : lo ≤ hi) (hhi : hi ≤ fb) (hfb : fb < w.heap.size) (hn : N ≤ 1000)
    (hK : ∀ a' c' w', Bld w' lo w'.heap.size (.slice a' (N + 1) c') (ds ++ [d]) → Within lo hi w w' → K (a.put o.dst (.slice a' (N + 1) c')) w') :
    if Region.wanted o (yielded ops a.tmps) = true then Oper.wp Tryz.prog o a w K Q else E := by
  subst hN
  exact step_push hgd s x ho lo hi v ds hs hB nb d pv fb hx hnb hpv hlo hhi hfb hn hK
noncomputable def ismS (x y : Nl) (one : Bool) : List (List Int) := if preB x y = true then srchS x y one else []
set_option maxRecDepth 100000 in
set_option maxHeartbeats 16000000 in
theorem isomorphisms_any (x y : Nl) (one : Bool) (v u : Value) (gY : Nat) (lY : Array Value) (Y : Nat → Prop) (Yd : List (List Int) → World → Prop) (w : World) (hx : nlB x = true) (hy : nlB y = true) (hlx : x.ds.length ≤ 10) (hly : y.ds.length ≤ 10) (h : YldC x y one v u gY lY Y Yd w) :
    Calls Tryz.prog 14 #[v, u, .func (.func gY) #[] lY] w fun e w' => e = .returned (.tuple #[]) ∧ Yd (ismS x y one) w' ∧ Exc Y w w' := by
  have HC := Lib.hid h
  have HNO : Hid (∀ w', Below w.heap.size w w' → preB x y = false → Yd (ismS x y one) w' ∧ Exc Y w w') := Lib.hid (fun w' hb hp => by
    unfold ismS
    rw [hp]
    exact ⟨h.hYs [] w w' h.h0 (fun _ => rfl) (Exc.ofBelow hb), Exc.ofBelow hb⟩)
  have HPB := Lib.hid (show preB x y = (decide (x.nets = y.nets) && (decide (x.ds.length = y.ds.length) && decide (namD x.ps y.ps = -1))) from rfl)
  have HV := Lib.hid (h.hV w (Exc.refl _ _))
  have HU := Lib.hid (h.hU w (Exc.refl _ _))
  obtain ⟨s1, s2, rfl, hd, hp⟩ := h.hV w (Exc.refl _ _)
  obtain ⟨t1, t2, rfl, hd', hp'⟩ := h.hU w (Exc.refl _ _)
  have HPS := Lib.hid hp
  have HQS := Lib.hid hp'
  obtain ⟨a1, c1, rfl⟩ := hd.sized
  obtain ⟨a2, c2, rfl⟩ := hp.sized
  obtain ⟨b1, d1, rfl⟩ := hd'.sized
  obtain ⟨b2, d2, rfl⟩ := hp'.sized
  obtain ⟨hnx, hpx⟩ : (0 ≤ x.nets ∧ x.nets ≤ 24) ∧ x.ps.length ≤ 8 := by obtain ⟨h1, _, h2, _⟩ := nlB_facts hx; exact ⟨h1, h2⟩
  obtain ⟨hny, hpy⟩ : (0 ≤ y.nets ∧ y.nets ≤ 24) ∧ y.ps.length ≤ 8 := by obtain ⟨h1, _, h2, _⟩ := nlB_facts hy; exact ⟨h1, h2⟩
  have HX := Lib.hid hx
  have HY := Lib.hid hy
  obtain ⟨nx, enx⟩ : ∃ N, x.nets = N := ⟨_, rfl⟩
  obtain ⟨ny, eny⟩ : ∃ N, y.nets = N := ⟨_, rfl⟩
  obtain ⟨la, ela⟩ : ∃ N, x.ds.length = N := ⟨_, rfl⟩
  obtain ⟨lb, elb⟩ : ∃ N, y.ds.length = N := ⟨_, rfl⟩
  obtain ⟨pa, epa⟩ : ∃ N, x.ps.length = N := ⟨_, rfl⟩
  obtain ⟨pb, epb⟩ : ∃ N, y.ps.length = N := ⟨_, rfl⟩
  simp only [enx, ela, epa, eny, elb, epb] at HC HPS HQS HV HU hlx hly hpx hpy hnx hny ⊢
  have HPB := Lib.hid (show preB x y = (decide (nx = ny) && (decide (la = lb) && decide (namD x.ps y.ps = -1))) from by rw [HPB.out, enx, eny, ela, elb])
  have HNX := Lib.hid enx
  have HNY := Lib.hid eny
  have HLA := Lib.hid ela
  have HLB := Lib.hid elb
  have HPA := Lib.hid epa
  have HPB2 := Lib.hid epb
  clear h hd hp hd' hp' hx hy enx eny ela elb epa epb
  by_cases hn : nx = ny
  · subst hn
    have g1 : (nx != nx) = false := by simp
    have g2 : (nx == nx) = true := by simp
    by_cases hl : la = lb
    · subst hl
      have g3 : ((la : Int) != (la : Int)) = false := by simp
      have g4 : ((la : Int) == (la : Int)) = true := by simp
      by_cases hpp : pa = pb
      · subst hpp
        have g5 : ((pa : Int) != (pa : Int)) = false := by simp
        have g6 : ((pa : Int) == (pa : Int)) = true := by simp
        have HNA := Lib.hid (show ∀ k p q, x.ps[k]? = some p → y.ps[k]? = some q → namAt x.ps y.ps k = (p.name.toList == q.name.toList) from fun k p q h1 h2 => by unfold namAt; rw [h1, h2])
        have HMX := Lib.hid (show max x.ps.length y.ps.length = pa from by rw [HPA.out, HPB2.out, Nat.max_self])
        go_enter Tryz.func14, Tryz.ntmps14
        go_wp2
        go_loopw [37] (fun iv wr => ∃ k : Nat, k ≤ pa ∧ iv = .int .i64 (k : Int) ∧ Hid (∀ j, j < k → namAt x.ps y.ps j = true) ∧ Blk wr w.heap.size #[.int .i64 nx, .slice a1 la c1, .slice a2 pa c2] 27 ∧ Blk wr (w.heap.size + 1) #[.int .i64 nx, .slice b1 la d1, .slice b2 pa d2] 27 ∧ Below w.heap.size w wr) (fun iv _ => pa - (intOf iv).toNat)
        case atStart => exact ⟨0, Nat.zero_le _, rfl, Lib.hid (by intro j h; omega), blkT, blkT, blwT⟩
        case round =>
          obtain ⟨k, hk, rfl, HI, kA, kB, hb⟩ := hrel
          have qA := kA.cell
          have qB := kB.cell
          have lA := kA.lt
          have lB := kB.lt
          by_cases hlt : k < pa
          · have i1 : (k : Int) < (pa : Int) := by omega
            have i2 : decide (k < pa) = true := decide_eq_true hlt
            obtain ⟨pp, hp⟩ : ∃ p, x.ps[k]? = some p := ⟨_, List.getElem?_eq_getElem (by rw [HPA.out]; exact hlt)⟩
            obtain ⟨qq, hq⟩ : ∃ q, y.ps[k]? = some q := ⟨_, List.getElem?_eq_getElem (by rw [HPB2.out]; exact hlt)⟩
            have hat := HNA.out k pp qq hp hq
            rcases HPS.out with ⟨_, _, _, h2⟩ | ⟨pb, po, pc, he, _, _, h4⟩
            · rw [h2] at hp; simp at hp
            obtain ⟨rfl, rfl⟩ : a2 = some ⟨pb, po, none⟩ ∧ c2 = pc := by
              simp only [Value.slice.injEq] at he
              exact ⟨he.1, he.2.2⟩
            rcases HQS.out with ⟨_, _, _, h2⟩ | ⟨qb, qo, qc, he', _, _, h4'⟩
            · rw [h2] at hq; simp at hq
            obtain ⟨rfl, rfl⟩ : b2 = some ⟨qb, qo, none⟩ ∧ d2 = qc := by
              simp only [Value.slice.injEq] at he'
              exact ⟨he'.1, he'.2.2⟩
            obtain ⟨p1, p2⟩ := (h4 k pp hp).by hb
            obtain ⟨q1, q2⟩ := (h4' k qq hq).by hb
            obtain ⟨name, net⟩ := pp
            obtain ⟨name', net'⟩ := qq
            dsimp only at p1 p2 q1 q2 hat
            have HAT := Lib.hid hat
            have lq := lt_of_cell q1
            dsimp only at lq
            have HKA := Lib.hid kA
            have HKB := Lib.hid kB
            clear hp hq hat he he' h4 h4' q2 kA kB
            cases hna : (name.toList == name'.toList) with
            | true =>
              rw [hna] at HAT
              go_wp2
              go_quiet (fail)
              go_wp2
              exact ⟨⟨k + 1, by omega, by go_num, Lib.hid (fun j hj => by
                by_cases e : j = k
                · rw [e]; exact HAT.out
                · exact HI.out j (by omega)), (HKA.out.past _).drewN _, (HKB.out.past _).drewN _, blwT⟩, by simp [intOf]; omega⟩
            | false =>
              rw [hna] at HAT
              have HNP := Lib.hid (show preB x y = false from by
                rw [HPB.out]
                have h1 := fstNo_at (f := namAt x.ps y.ps) (n := max x.ps.length y.ps.length) (k := k) (by rw [HMX.out]; exact hlt) HAT.out HI.out
                have h2 : ¬ namD x.ps y.ps = -1 := by
                  show ¬ fstNo (namAt x.ps y.ps) (max x.ps.length y.ps.length) = -1
                  rw [h1]; omega
                rw [decide_eq_false h2]; simp)
              go_wp2
              go_quiet (fail)
              go_wp2
              refine bodyPost_ret (v := .tuple #[]) (by simp [results, Tryz.results14, go_sem, *]) rfl ⟨rfl, HNO.out _ blwT HNP.out⟩
          · obtain rfl : pa = k := by omega
            have i1 : ¬ (pa : Int) < (pa : Int) := by omega
            have HPY := Lib.hid (show preB x y = true from by
              have h1 : namD x.ps y.ps = -1 := fstNo_none (fun i hi => HI.out i (by rw [HMX.out] at hi; exact hi))
              rw [HPB.out, decide_eq_true h1]; simp)
            clear hlt HI
            obtain ⟨n, rfl⟩ : ∃ n : Nat, nx = n := ⟨nx.toNat, by omega⟩
            have HPOx := Lib.hid (fun v w (h : NlV w v x) => (show Calls Tryz.prog 38 #[v] w fun e w' => ∃ v', e = .returned v' ∧ LlIn w' w.heap.size w'.heap.size v' (netL x n) ∧ Below w.heap.size w w' from by have := portsOf_any x v w h HX.out; rw [HNX.out, Int.toNat_natCast] at this; exact this))
            have HPOy := Lib.hid (fun v w (h : NlV w v y) => (show Calls Tryz.prog 38 #[v] w fun e w' => ∃ v', e = .returned v' ∧ LlIn w' w.heap.size w'.heap.size v' (netL y n) ∧ Below w.heap.size w w' from by have := portsOf_any y v w h HY.out; rw [HNY.out, Int.toNat_natCast] at this; exact this))
            have HLNx := Lib.hid (show (netL x n).length = n from by simp [netL])
            have HLNy := Lib.hid (show (netL y n).length = n from by simp [netL])
            have HRX := Lib.hid (fun v w h => refined_n x n HX.out HNX.out v w h)
            have HRY := Lib.hid (fun v w h => refined_n y n HY.out HNY.out v w h)
            have HPY3 := Lib.hid (show ∀ d ∈ y.ds, d.pins.length ≤ 3 ∧ 2 ≤ d.pins.length from fun d hd => by
              obtain ⟨_, _, _, hdy, _⟩ := nlB_facts HY.out
              have := dvB_pins (hdy d hd)
              exact ⟨this.1, this.2.1⟩)
            have HDY := Lib.hid (show DvSl w (.slice b1 la d1) y.ds from (nlV_dp HU.out).1)
            have HVz := Lib.hid (HV.out.by hb)
            have HUz := Lib.hid (HU.out.by hb)
            have HX' := HX
            have HNY2 := HNY
            have HNM := Lib.hid (fun kd wd ln sx pins w h hn => implNorm_any kd wd ln sx pins w h hn)
            go_upto_region 7 with fail
            go_cut [8] from 52 to 100 (fun mv wc => MtO wr wc n x y (fun U NA NB => #[.int .i64 (n : Int), .slice a1 la c1, .slice a2 pa c2, .int .i64 (n : Int), .slice b1 la d1, .slice b2 pa d2, .slice none 0 0, .slice none 0 0, .slice none 0 0, .slice none 0 0, .slice none 0 0, .slice none 0 0, .slice (some ⟨U, 0, none⟩) n n, .func (.func gY) #[] lY, .slice (some ⟨NA, 0, none⟩) n n, .slice (some ⟨NB, 0, none⟩) n n]) mv)
            case first =>
              have hbzwd : Below wr.heap.size wr wr.drew := (Below.refl _ wr).drew
              have kAwd : Blk wr.drew w.heap.size #[.int .i64 (n : Int), .slice a1 la c1, .slice a2 pa c2] 27 := kA.drew
              have kBwd : Blk wr.drew (w.heap.size + 1) #[.int .i64 (n : Int), .slice b1 la d1, .slice b2 pa d2] 27 := kB.drew
              have hswd := hbzwd.size
              have hS : (fun w' : World => Blk w' w.heap.size #[.int .i64 (n : Int), .slice a1 la c1, .slice a2 pa c2] 27 ∧ Blk w' (w.heap.size + 1) #[.int .i64 (n : Int), .slice b1 la d1, .slice b2 pa d2] 27) wr.drew := ⟨kAwd, kBwd⟩
              refine wp_region_any (by kernel_rfl) (wpAny_of_E (S := fun w' : World => Blk w' w.heap.size #[.int .i64 (n : Int), .slice a1 la c1, .slice a2 pa c2] 27 ∧ Blk w' (w.heap.size + 1) #[.int .i64 (n : Int), .slice b1 la d1, .slice b2 pa d2] 27) (l := 12) _ _ _ _ ?_)
              change wpAnyE _ _ _ _ _ _ _ _ _ wr.drew
              generalize wr.drew = wd at *
              refine wpAnyE_takeL (i := 0) (v := ?_) rfl (by kernel_rfl) (fun _ _ _ h => h) (Or.inl ⟨by rfl, ?_⟩) hS ?_
              rotate_left
              · intro w hSw; (try dsimp only at hSw); have qA := hSw.1.cell; have qB := hSw.2.cell; have lA := hSw.1.lt; have lB := hSw.2.lt; clear hSw; go_simp; (try with_reducible rfl)
              try simp only [Act.put, List.setIfInBounds_toArray, List.set_cons_zero, List.set_cons_succ]
              refine wpAnyE_takeL (i := 1) (v := ?_) rfl (by kernel_rfl) (fun _ _ _ h => h) (Or.inl ⟨by rfl, ?_⟩) hS ?_
              rotate_left
              · intro w hSw; (try dsimp only at hSw); have qA := hSw.1.cell; have qB := hSw.2.cell; have lA := hSw.1.lt; have lB := hSw.2.lt; clear hSw; go_simp; (try with_reducible rfl)
              try simp only [Act.put, List.setIfInBounds_toArray, List.set_cons_zero, List.set_cons_succ]
              refine wpAnyE_takeL (i := 2) (v := ?_) rfl (by kernel_rfl) (fun _ _ _ h => h) (Or.inl ⟨by rfl, ?_⟩) hS ?_
              rotate_left
              · intro w hSw; (try dsimp only at hSw); have qA := hSw.1.cell; have qB := hSw.2.cell; have lA := hSw.1.lt; have lB := hSw.2.lt; clear hSw; go_simp; (try with_reducible rfl)
              try simp only [Act.put, List.setIfInBounds_toArray, List.set_cons_zero, List.set_cons_succ]
              refine wpAnyE_takeL (i := 3) (v := ?_) rfl (by kernel_rfl) (fun _ _ _ h => h) (Or.inl ⟨by rfl, ?_⟩) hS ?_
              rotate_left
              · intro w hSw; (try dsimp only at hSw); have qA := hSw.1.cell; have qB := hSw.2.cell; have lA := hSw.1.lt; have lB := hSw.2.lt; clear hSw; go_simp; (try with_reducible rfl)
              try simp only [Act.put, List.setIfInBounds_toArray, List.set_cons_zero, List.set_cons_succ]
              refine wpAnyE_takeL (i := 5) (v := ?_) rfl (by kernel_rfl) (fun _ _ _ h => h) (Or.inl ⟨by rfl, ?_⟩) hS ?_
              rotate_left
              · intro w hSw; (try dsimp only at hSw); have qA := hSw.1.cell; have qB := hSw.2.cell; have lA := hSw.1.lt; have lB := hSw.2.lt; clear hSw; go_simp; (try with_reducible rfl)
              try simp only [Act.put, List.setIfInBounds_toArray, List.set_cons_zero, List.set_cons_succ]
              refine wpAnyE_takeL (i := 6) (v := ?_) rfl (by kernel_rfl) (fun _ _ _ h => h) (Or.inl ⟨by rfl, ?_⟩) hS ?_
              rotate_left
              · intro w hSw; (try dsimp only at hSw); have qA := hSw.1.cell; have qB := hSw.2.cell; have lA := hSw.1.lt; have lB := hSw.2.lt; clear hSw; go_simp; (try with_reducible rfl)
              try simp only [Act.put, List.setIfInBounds_toArray, List.set_cons_zero, List.set_cons_succ]
              refine wpAnyE_takeL (i := 8) (v := ?_) rfl (by kernel_rfl) (fun _ _ _ h => h) (Or.inl ⟨by rfl, ?_⟩) hS ?_
              rotate_left
              · intro w hSw; (try dsimp only at hSw); have qA := hSw.1.cell; have qB := hSw.2.cell; have lA := hSw.1.lt; have lB := hSw.2.lt; clear hSw; go_simp; (try with_reducible rfl)
              try simp only [Act.put, List.setIfInBounds_toArray, List.set_cons_zero, List.set_cons_succ]
              clear hS
              refine wpAnyE_twoL (k := 4) (k' := 7) (by kernel_rfl) rfl rfl (fun K hK => ?_) (fun K hK => ?_)
              · obtain ⟨cs0, hcs0, hcz, hmk⟩ := make_bools n (by omega) wd
                go_simp
                have hbm : Below wd.heap.size wd (wd.alloc (.cells cs0 4)) := (Below.refl _ wd).alloc (Nat.le_refl _) _
                have HUw4 := Lib.hid (show UsedB (wd.alloc (.cells cs0 4)) wd.heap.size n [] from ⟨cs0, Blk.new _ rfl, hcs0, fun j hj => by rw [hcz j hj]; rfl⟩)
                have hsxw4 : (wd.alloc (.cells cs0 4)).heap.size ≤ wd.heap.size + 1 := by simp
                have hsyw4 : wd.heap.size + 1 ≤ (wd.alloc (.cells cs0 4)).heap.size := by simp
                have kAw4 := Blk.by hbm kAwd
                have kBw4 := Blk.by hbm kBwd
                have hbzw4 := below_on hbm hbzwd
                have hsw4 := hbm.size
                obtain ⟨U, hUe⟩ : ∃ U, wd.heap.size = U := ⟨_, rfl⟩
                rw [hUe] at HUw4 ⊢
                have hU1 : wd.heap.size ≤ U := Nat.le_of_eq hUe
                have hU2 : U ≤ wd.heap.size := Nat.le_of_eq hUe.symm
                clear hUe hmk hcz hcs0 hbm
                generalize wd.alloc (.cells cs0 4) = w4 at *
                refine hK.out _ _ (fun _ => ⟨kAw4, kBw4⟩) ?_
                try simp only [Act.put, List.setIfInBounds_toArray, List.set_cons_zero, List.set_cons_succ]
                refine wpAnyE_oneL (k := 7) (by kernel_rfl) rfl (fun K hK => ?_)
                go_simp
                go_at_call 38
                refine (HPOx.out _ w4 (HVz.out.by hbzw4)).mono ?_
                rintro e w5 ⟨va, rfl, hLa, hba⟩
                obtain ⟨NA, _, hva, _⟩ := id hLa
                subst hva
                rw [HLNx.out] at hLa ⊢
                have HPaw5 := Lib.hid hLa
                have kAw5 := Blk.by hba kAw4
                have kBw5 := Blk.by hba kBw4
                have hbzw5 := below_on hba hbzw4
                have HUw5 := Lib.hid (HUw4.out.by hba)
                have hsw5 := hba.size
                obtain ⟨sa, hsea⟩ : ∃ z, w4.heap.size = z := ⟨_, rfl⟩
                obtain ⟨ta, htea⟩ : ∃ z, w5.heap.size = z := ⟨_, rfl⟩
                rw [hsea, htea] at HPaw5
                have hsAa : w4.heap.size ≤ sa := Nat.le_of_eq hsea
                have hsBa : sa ≤ w4.heap.size := Nat.le_of_eq hsea.symm
                have htAa : w5.heap.size ≤ ta := Nat.le_of_eq htea
                have htBa : ta ≤ w5.heap.size := Nat.le_of_eq htea.symm
                clear hLa hba hsea htea
                refine hK.out _ _ (fun _ => ⟨kAw5, kBw5⟩) ?_
                try simp only [Act.put, List.setIfInBounds_toArray, List.set_cons_zero, List.set_cons_succ]
                refine wpAnyE_oneL (k := 9) (by kernel_rfl) rfl (fun K hK => ?_)
                go_simp
                go_at_call 38
                refine (HPOy.out _ w5 (HUz.out.by hbzw5)).mono ?_
                rintro e w6 ⟨vb, rfl, hLb, hbb⟩
                obtain ⟨NB, _, hvb, _⟩ := id hLb
                subst hvb
                rw [HLNy.out] at hLb ⊢
                have HPbw6 := Lib.hid hLb
                have kAw6 := Blk.by hbb kAw5
                have kBw6 := Blk.by hbb kBw5
                have hbzw6 := below_on hbb hbzw5
                have HUw6 := Lib.hid (HUw5.out.by hbb)
                have HPaw6 := Lib.hid (HPaw5.out.by hbb)
                have hsw6 := hbb.size
                obtain ⟨sb, hseb⟩ : ∃ z, w5.heap.size = z := ⟨_, rfl⟩
                obtain ⟨tb, hteb⟩ : ∃ z, w6.heap.size = z := ⟨_, rfl⟩
                rw [hseb, hteb] at HPbw6
                have hsAb : w5.heap.size ≤ sb := Nat.le_of_eq hseb
                have hsBb : sb ≤ w5.heap.size := Nat.le_of_eq hseb.symm
                have htAb : w6.heap.size ≤ tb := Nat.le_of_eq hteb
                have htBb : tb ≤ w6.heap.size := Nat.le_of_eq hteb.symm
                clear hLb hbb hseb hteb
                refine hK.out _ _ (fun _ => ⟨kAw6, kBw6⟩) ?_
                try simp only [Act.put, List.setIfInBounds_toArray, List.set_cons_zero, List.set_cons_succ]
                refine wpAnyE_oneL (k := 10) (by kernel_rfl) rfl (fun K hK => ?_)
                go_simp
                refine hK.out _ _ (fun _ => ⟨kAw6, kBw6⟩) ?_
                try simp only [Act.put, List.setIfInBounds_toArray, List.set_cons_zero, List.set_cons_succ]
                refine wpAnyE_oneL (k := 11) (by kernel_rfl) rfl (fun K hK => ?_)
                go_simp
                have kM9 : Blk (w6.alloc (.cells #[.int .i64 (n : Int), .slice a1 la c1, .slice a2 pa c2, .int .i64 (n : Int), .slice b1 la d1, .slice b2 pa d2, .slice none 0 0, .slice none 0 0, .slice none 0 0, .slice none 0 0, .slice none 0 0, .slice none 0 0, .slice (some ⟨U, 0, none⟩) n n, .func (.func gY) #[] lY, .slice (some ⟨NA, 0, none⟩) n n, .slice (some ⟨NB, 0, none⟩) n n] 79)) w6.heap.size #[.int .i64 (n : Int), .slice a1 la c1, .slice a2 pa c2, .int .i64 (n : Int), .slice b1 la d1, .slice b2 pa d2, .slice none 0 0, .slice none 0 0, .slice none 0 0, .slice none 0 0, .slice none 0 0, .slice none 0 0, .slice (some ⟨U, 0, none⟩) n n, .func (.func gY) #[] lY, .slice (some ⟨NA, 0, none⟩) n n, .slice (some ⟨NB, 0, none⟩) n n] 79 := Blk.new _ rfl
                have hb9 : Below w6.heap.size w6 (w6.alloc (.cells #[.int .i64 (n : Int), .slice a1 la c1, .slice a2 pa c2, .int .i64 (n : Int), .slice b1 la d1, .slice b2 pa d2, .slice none 0 0, .slice none 0 0, .slice none 0 0, .slice none 0 0, .slice none 0 0, .slice none 0 0, .slice (some ⟨U, 0, none⟩) n n, .func (.func gY) #[] lY, .slice (some ⟨NA, 0, none⟩) n n, .slice (some ⟨NB, 0, none⟩) n n] 79)) := (Below.refl _ w6).alloc (Nat.le_refl _) _
                have hs9 : (w6.alloc (.cells #[.int .i64 (n : Int), .slice a1 la c1, .slice a2 pa c2, .int .i64 (n : Int), .slice b1 la d1, .slice b2 pa d2, .slice none 0 0, .slice none 0 0, .slice none 0 0, .slice none 0 0, .slice none 0 0, .slice none 0 0, .slice (some ⟨U, 0, none⟩) n n, .func (.func gY) #[] lY, .slice (some ⟨NA, 0, none⟩) n n, .slice (some ⟨NB, 0, none⟩) n n] 79)).heap.size ≤ w6.heap.size + 1 := by simp
                have hs8 : w6.heap.size + 1 ≤ (w6.alloc (.cells #[.int .i64 (n : Int), .slice a1 la c1, .slice a2 pa c2, .int .i64 (n : Int), .slice b1 la d1, .slice b2 pa d2, .slice none 0 0, .slice none 0 0, .slice none 0 0, .slice none 0 0, .slice none 0 0, .slice none 0 0, .slice (some ⟨U, 0, none⟩) n n, .func (.func gY) #[] lY, .slice (some ⟨NA, 0, none⟩) n n, .slice (some ⟨NB, 0, none⟩) n n] 79)).heap.size := by simp
                have kAw9 := Blk.by hb9 kAw6
                have kBw9 := Blk.by hb9 kBw6
                have hbzw9 := below_on hb9 hbzw6
                have HUw9 := Lib.hid (HUw6.out.by hb9)
                have HPaw9 := Lib.hid (HPaw6.out.by hb9)
                have HPbw9 := Lib.hid (HPbw6.out.by hb9)
                have hsw9 := hb9.size
                obtain ⟨M, hMe⟩ : ∃ M, w6.heap.size = M := ⟨_, rfl⟩
                rw [hMe] at kM9 ⊢
                have hM1 : w6.heap.size ≤ M := Nat.le_of_eq hMe
                have hM2 : M ≤ w6.heap.size := Nat.le_of_eq hMe.symm
                clear hb9 hMe
                generalize w6.alloc (.cells #[.int .i64 (n : Int), .slice a1 la c1, .slice a2 pa c2, .int .i64 (n : Int), .slice b1 la d1, .slice b2 pa d2, .slice none 0 0, .slice none 0 0, .slice none 0 0, .slice none 0 0, .slice none 0 0, .slice none 0 0, .slice (some ⟨U, 0, none⟩) n n, .func (.func gY) #[] lY, .slice (some ⟨NA, 0, none⟩) n n, .slice (some ⟨NB, 0, none⟩) n n] 79) = w9 at *
                refine hK.out _ _ (fun _ => ⟨kAw9, kBw9⟩) ?_
                try simp only [Act.put, List.setIfInBounds_toArray, List.set_cons_zero, List.set_cons_succ]
                refine wpAnyE_oneL (k := 12) (by kernel_rfl) rfl (fun K hK => ?_)
                go_simp
                refine hK.out _ _ (fun h => absurd rfl h) ?_
                refine wpAnyE_done (by kernel_rfl) ?_ _
                go_wp2
                go_meet
                exact ⟨M, U, NA, NB, sa, ta, sb, tb, rfl, kM9, HUw9.out, HPaw9.out, HPbw9.out, by omega, fun k h1 h2 => ⟨by omega, by omega⟩, fun k h1 h2 => ⟨by omega, by omega⟩, ⟨by omega, by omega, by omega, by omega⟩, ⟨by omega, by omega, by omega, by omega⟩, hbzw9⟩
              · go_simp
                go_at_call 38
                refine (HPOx.out _ wd (HVz.out.by hbzwd)).mono ?_
                rintro e w4 ⟨va, rfl, hLa, hba⟩
                obtain ⟨NA, _, hva, _⟩ := id hLa
                subst hva
                rw [HLNx.out] at hLa ⊢
                have HPaw4 := Lib.hid hLa
                have kAw4 := Blk.by hba kAwd
                have kBw4 := Blk.by hba kBwd
                have hbzw4 := below_on hba hbzwd
                have hsw4 := hba.size
                obtain ⟨sa, hsea⟩ : ∃ z, wd.heap.size = z := ⟨_, rfl⟩
                obtain ⟨ta, htea⟩ : ∃ z, w4.heap.size = z := ⟨_, rfl⟩
                rw [hsea, htea] at HPaw4
                have hsAa : wd.heap.size ≤ sa := Nat.le_of_eq hsea
                have hsBa : sa ≤ wd.heap.size := Nat.le_of_eq hsea.symm
                have htAa : w4.heap.size ≤ ta := Nat.le_of_eq htea
                have htBa : ta ≤ w4.heap.size := Nat.le_of_eq htea.symm
                clear hLa hba hsea htea
                refine hK.out _ _ (fun _ => ⟨kAw4, kBw4⟩) ?_
                try simp only [Act.put, List.setIfInBounds_toArray, List.set_cons_zero, List.set_cons_succ]
                refine wpAnyE_twoL (k := 4) (k' := 9) (by kernel_rfl) rfl rfl (fun K hK => ?_) (fun K hK => ?_)
                · obtain ⟨cs0, hcs0, hcz, hmk⟩ := make_bools n (by omega) w4
                  go_simp
                  have hbm : Below w4.heap.size w4 (w4.alloc (.cells cs0 4)) := (Below.refl _ w4).alloc (Nat.le_refl _) _
                  have HUw5 := Lib.hid (show UsedB (w4.alloc (.cells cs0 4)) w4.heap.size n [] from ⟨cs0, Blk.new _ rfl, hcs0, fun j hj => by rw [hcz j hj]; rfl⟩)
                  have hsxw5 : (w4.alloc (.cells cs0 4)).heap.size ≤ w4.heap.size + 1 := by simp
                  have hsyw5 : w4.heap.size + 1 ≤ (w4.alloc (.cells cs0 4)).heap.size := by simp
                  have kAw5 := Blk.by hbm kAw4
                  have kBw5 := Blk.by hbm kBw4
                  have hbzw5 := below_on hbm hbzw4
                  have HPaw5 := Lib.hid (HPaw4.out.by hbm)
                  have hsw5 := hbm.size
                  obtain ⟨U, hUe⟩ : ∃ U, w4.heap.size = U := ⟨_, rfl⟩
                  rw [hUe] at HUw5 ⊢
                  have hU1 : w4.heap.size ≤ U := Nat.le_of_eq hUe
                  have hU2 : U ≤ w4.heap.size := Nat.le_of_eq hUe.symm
                  clear hUe hmk hcz hcs0 hbm
                  generalize w4.alloc (.cells cs0 4) = w5 at *
                  refine hK.out _ _ (fun _ => ⟨kAw5, kBw5⟩) ?_
                  try simp only [Act.put, List.setIfInBounds_toArray, List.set_cons_zero, List.set_cons_succ]
                  refine wpAnyE_oneL (k := 9) (by kernel_rfl) rfl (fun K hK => ?_)
                  go_simp
                  go_at_call 38
                  refine (HPOy.out _ w5 (HUz.out.by hbzw5)).mono ?_
                  rintro e w6 ⟨vb, rfl, hLb, hbb⟩
                  obtain ⟨NB, _, hvb, _⟩ := id hLb
                  subst hvb
                  rw [HLNy.out] at hLb ⊢
                  have HPbw6 := Lib.hid hLb
                  have kAw6 := Blk.by hbb kAw5
                  have kBw6 := Blk.by hbb kBw5
                  have hbzw6 := below_on hbb hbzw5
                  have HUw6 := Lib.hid (HUw5.out.by hbb)
                  have HPaw6 := Lib.hid (HPaw5.out.by hbb)
                  have hsw6 := hbb.size
                  obtain ⟨sb, hseb⟩ : ∃ z, w5.heap.size = z := ⟨_, rfl⟩
                  obtain ⟨tb, hteb⟩ : ∃ z, w6.heap.size = z := ⟨_, rfl⟩
                  rw [hseb, hteb] at HPbw6
                  have hsAb : w5.heap.size ≤ sb := Nat.le_of_eq hseb
                  have hsBb : sb ≤ w5.heap.size := Nat.le_of_eq hseb.symm
                  have htAb : w6.heap.size ≤ tb := Nat.le_of_eq hteb
                  have htBb : tb ≤ w6.heap.size := Nat.le_of_eq hteb.symm
                  clear hLb hbb hseb hteb
                  refine hK.out _ _ (fun _ => ⟨kAw6, kBw6⟩) ?_
                  try simp only [Act.put, List.setIfInBounds_toArray, List.set_cons_zero, List.set_cons_succ]
                  refine wpAnyE_oneL (k := 10) (by kernel_rfl) rfl (fun K hK => ?_)
                  go_simp
                  refine hK.out _ _ (fun _ => ⟨kAw6, kBw6⟩) ?_
                  try simp only [Act.put, List.setIfInBounds_toArray, List.set_cons_zero, List.set_cons_succ]
                  refine wpAnyE_oneL (k := 11) (by kernel_rfl) rfl (fun K hK => ?_)
                  go_simp
                  have kM9 : Blk (w6.alloc (.cells #[.int .i64 (n : Int), .slice a1 la c1, .slice a2 pa c2, .int .i64 (n : Int), .slice b1 la d1, .slice b2 pa d2, .slice none 0 0, .slice none 0 0, .slice none 0 0, .slice none 0 0, .slice none 0 0, .slice none 0 0, .slice (some ⟨U, 0, none⟩) n n, .func (.func gY) #[] lY, .slice (some ⟨NA, 0, none⟩) n n, .slice (some ⟨NB, 0, none⟩) n n] 79)) w6.heap.size #[.int .i64 (n : Int), .slice a1 la c1, .slice a2 pa c2, .int .i64 (n : Int), .slice b1 la d1, .slice b2 pa d2, .slice none 0 0, .slice none 0 0, .slice none 0 0, .slice none 0 0, .slice none 0 0, .slice none 0 0, .slice (some ⟨U, 0, none⟩) n n, .func (.func gY) #[] lY, .slice (some ⟨NA, 0, none⟩) n n, .slice (some ⟨NB, 0, none⟩) n n] 79 := Blk.new _ rfl
                  have hb9 : Below w6.heap.size w6 (w6.alloc (.cells #[.int .i64 (n : Int), .slice a1 la c1, .slice a2 pa c2, .int .i64 (n : Int), .slice b1 la d1, .slice b2 pa d2, .slice none 0 0, .slice none 0 0, .slice none 0 0, .slice none 0 0, .slice none 0 0, .slice none 0 0, .slice (some ⟨U, 0, none⟩) n n, .func (.func gY) #[] lY, .slice (some ⟨NA, 0, none⟩) n n, .slice (some ⟨NB, 0, none⟩) n n] 79)) := (Below.refl _ w6).alloc (Nat.le_refl _) _
                  have hs9 : (w6.alloc (.cells #[.int .i64 (n : Int), .slice a1 la c1, .slice a2 pa c2, .int .i64 (n : Int), .slice b1 la d1, .slice b2 pa d2, .slice none 0 0, .slice none 0 0, .slice none 0 0, .slice none 0 0, .slice none 0 0, .slice none 0 0, .slice (some ⟨U, 0, none⟩) n n, .func (.func gY) #[] lY, .slice (some ⟨NA, 0, none⟩) n n, .slice (some ⟨NB, 0, none⟩) n n] 79)).heap.size ≤ w6.heap.size + 1 := by simp
                  have hs8 : w6.heap.size + 1 ≤ (w6.alloc (.cells #[.int .i64 (n : Int), .slice a1 la c1, .slice a2 pa c2, .int .i64 (n : Int), .slice b1 la d1, .slice b2 pa d2, .slice none 0 0, .slice none 0 0, .slice none 0 0, .slice none 0 0, .slice none 0 0, .slice none 0 0, .slice (some ⟨U, 0, none⟩) n n, .func (.func gY) #[] lY, .slice (some ⟨NA, 0, none⟩) n n, .slice (some ⟨NB, 0, none⟩) n n] 79)).heap.size := by simp
                  have kAw9 := Blk.by hb9 kAw6
                  have kBw9 := Blk.by hb9 kBw6
                  have hbzw9 := below_on hb9 hbzw6
                  have HUw9 := Lib.hid (HUw6.out.by hb9)
                  have HPaw9 := Lib.hid (HPaw6.out.by hb9)
                  have HPbw9 := Lib.hid (HPbw6.out.by hb9)
                  have hsw9 := hb9.size
                  obtain ⟨M, hMe⟩ : ∃ M, w6.heap.size = M := ⟨_, rfl⟩
                  rw [hMe] at kM9 ⊢
                  have hM1 : w6.heap.size ≤ M := Nat.le_of_eq hMe
                  have hM2 : M ≤ w6.heap.size := Nat.le_of_eq hMe.symm
                  clear hb9 hMe
                  generalize w6.alloc (.cells #[.int .i64 (n : Int), .slice a1 la c1, .slice a2 pa c2, .int .i64 (n : Int), .slice b1 la d1, .slice b2 pa d2, .slice none 0 0, .slice none 0 0, .slice none 0 0, .slice none 0 0, .slice none 0 0, .slice none 0 0, .slice (some ⟨U, 0, none⟩) n n, .func (.func gY) #[] lY, .slice (some ⟨NA, 0, none⟩) n n, .slice (some ⟨NB, 0, none⟩) n n] 79) = w9 at *
                  refine hK.out _ _ (fun _ => ⟨kAw9, kBw9⟩) ?_
                  try simp only [Act.put, List.setIfInBounds_toArray, List.set_cons_zero, List.set_cons_succ]
                  refine wpAnyE_oneL (k := 12) (by kernel_rfl) rfl (fun K hK => ?_)
                  go_simp
                  refine hK.out _ _ (fun h => absurd rfl h) ?_
                  refine wpAnyE_done (by kernel_rfl) ?_ _
                  go_wp2
                  go_meet
                  exact ⟨M, U, NA, NB, sa, ta, sb, tb, rfl, kM9, HUw9.out, HPaw9.out, HPbw9.out, by omega, fun k h1 h2 => ⟨by omega, by omega⟩, fun k h1 h2 => ⟨by omega, by omega⟩, ⟨by omega, by omega, by omega, by omega⟩, ⟨by omega, by omega, by omega, by omega⟩, hbzw9⟩
                · go_simp
                  go_at_call 38
                  refine (HPOy.out _ w4 (HUz.out.by hbzw4)).mono ?_
                  rintro e w5 ⟨vb, rfl, hLb, hbb⟩
                  obtain ⟨NB, _, hvb, _⟩ := id hLb
                  subst hvb
                  rw [HLNy.out] at hLb ⊢
                  have HPbw5 := Lib.hid hLb
                  have kAw5 := Blk.by hbb kAw4
                  have kBw5 := Blk.by hbb kBw4
                  have hbzw5 := below_on hbb hbzw4
                  have HPaw5 := Lib.hid (HPaw4.out.by hbb)
                  have hsw5 := hbb.size
                  obtain ⟨sb, hseb⟩ : ∃ z, w4.heap.size = z := ⟨_, rfl⟩
                  obtain ⟨tb, hteb⟩ : ∃ z, w5.heap.size = z := ⟨_, rfl⟩
                  rw [hseb, hteb] at HPbw5
                  have hsAb : w4.heap.size ≤ sb := Nat.le_of_eq hseb
                  have hsBb : sb ≤ w4.heap.size := Nat.le_of_eq hseb.symm
                  have htAb : w5.heap.size ≤ tb := Nat.le_of_eq hteb
                  have htBb : tb ≤ w5.heap.size := Nat.le_of_eq hteb.symm
                  clear hLb hbb hseb hteb
                  refine hK.out _ _ (fun _ => ⟨kAw5, kBw5⟩) ?_
                  try simp only [Act.put, List.setIfInBounds_toArray, List.set_cons_zero, List.set_cons_succ]
                  refine wpAnyE_oneL (k := 4) (by kernel_rfl) rfl (fun K hK => ?_)
                  obtain ⟨cs0, hcs0, hcz, hmk⟩ := make_bools n (by omega) w5
                  go_simp
                  have hbm : Below w5.heap.size w5 (w5.alloc (.cells cs0 4)) := (Below.refl _ w5).alloc (Nat.le_refl _) _
                  have HUw6 := Lib.hid (show UsedB (w5.alloc (.cells cs0 4)) w5.heap.size n [] from ⟨cs0, Blk.new _ rfl, hcs0, fun j hj => by rw [hcz j hj]; rfl⟩)
                  have hsxw6 : (w5.alloc (.cells cs0 4)).heap.size ≤ w5.heap.size + 1 := by simp
                  have hsyw6 : w5.heap.size + 1 ≤ (w5.alloc (.cells cs0 4)).heap.size := by simp
                  have kAw6 := Blk.by hbm kAw5
                  have kBw6 := Blk.by hbm kBw5
                  have hbzw6 := below_on hbm hbzw5
                  have HPaw6 := Lib.hid (HPaw5.out.by hbm)
                  have HPbw6 := Lib.hid (HPbw5.out.by hbm)
                  have hsw6 := hbm.size
                  obtain ⟨U, hUe⟩ : ∃ U, w5.heap.size = U := ⟨_, rfl⟩
                  rw [hUe] at HUw6 ⊢
                  have hU1 : w5.heap.size ≤ U := Nat.le_of_eq hUe
                  have hU2 : U ≤ w5.heap.size := Nat.le_of_eq hUe.symm
                  clear hUe hmk hcz hcs0 hbm
                  generalize w5.alloc (.cells cs0 4) = w6 at *
                  refine hK.out _ _ (fun _ => ⟨kAw6, kBw6⟩) ?_
                  try simp only [Act.put, List.setIfInBounds_toArray, List.set_cons_zero, List.set_cons_succ]
                  refine wpAnyE_oneL (k := 10) (by kernel_rfl) rfl (fun K hK => ?_)
                  go_simp
                  refine hK.out _ _ (fun _ => ⟨kAw6, kBw6⟩) ?_
                  try simp only [Act.put, List.setIfInBounds_toArray, List.set_cons_zero, List.set_cons_succ]
                  refine wpAnyE_oneL (k := 11) (by kernel_rfl) rfl (fun K hK => ?_)
                  go_simp
                  have kM9 : Blk (w6.alloc (.cells #[.int .i64 (n : Int), .slice a1 la c1, .slice a2 pa c2, .int .i64 (n : Int), .slice b1 la d1, .slice b2 pa d2, .slice none 0 0, .slice none 0 0, .slice none 0 0, .slice none 0 0, .slice none 0 0, .slice none 0 0, .slice (some ⟨U, 0, none⟩) n n, .func (.func gY) #[] lY, .slice (some ⟨NA, 0, none⟩) n n, .slice (some ⟨NB, 0, none⟩) n n] 79)) w6.heap.size #[.int .i64 (n : Int), .slice a1 la c1, .slice a2 pa c2, .int .i64 (n : Int), .slice b1 la d1, .slice b2 pa d2, .slice none 0 0, .slice none 0 0, .slice none 0 0, .slice none 0 0, .slice none 0 0, .slice none 0 0, .slice (some ⟨U, 0, none⟩) n n, .func (.func gY) #[] lY, .slice (some ⟨NA, 0, none⟩) n n, .slice (some ⟨NB, 0, none⟩) n n] 79 := Blk.new _ rfl
                  have hb9 : Below w6.heap.size w6 (w6.alloc (.cells #[.int .i64 (n : Int), .slice a1 la c1, .slice a2 pa c2, .int .i64 (n : Int), .slice b1 la d1, .slice b2 pa d2, .slice none 0 0, .slice none 0 0, .slice none 0 0, .slice none 0 0, .slice none 0 0, .slice none 0 0, .slice (some ⟨U, 0, none⟩) n n, .func (.func gY) #[] lY, .slice (some ⟨NA, 0, none⟩) n n, .slice (some ⟨NB, 0, none⟩) n n] 79)) := (Below.refl _ w6).alloc (Nat.le_refl _) _
                  have hs9 : (w6.alloc (.cells #[.int .i64 (n : Int), .slice a1 la c1, .slice a2 pa c2, .int .i64 (n : Int), .slice b1 la d1, .slice b2 pa d2, .slice none 0 0, .slice none 0 0, .slice none 0 0, .slice none 0 0, .slice none 0 0, .slice none 0 0, .slice (some ⟨U, 0, none⟩) n n, .func (.func gY) #[] lY, .slice (some ⟨NA, 0, none⟩) n n, .slice (some ⟨NB, 0, none⟩) n n] 79)).heap.size ≤ w6.heap.size + 1 := by simp
                  have hs8 : w6.heap.size + 1 ≤ (w6.alloc (.cells #[.int .i64 (n : Int), .slice a1 la c1, .slice a2 pa c2, .int .i64 (n : Int), .slice b1 la d1, .slice b2 pa d2, .slice none 0 0, .slice none 0 0, .slice none 0 0, .slice none 0 0, .slice none 0 0, .slice none 0 0, .slice (some ⟨U, 0, none⟩) n n, .func (.func gY) #[] lY, .slice (some ⟨NA, 0, none⟩) n n, .slice (some ⟨NB, 0, none⟩) n n] 79)).heap.size := by simp
                  have kAw9 := Blk.by hb9 kAw6
                  have kBw9 := Blk.by hb9 kBw6
                  have hbzw9 := below_on hb9 hbzw6
                  have HUw9 := Lib.hid (HUw6.out.by hb9)
                  have HPaw9 := Lib.hid (HPaw6.out.by hb9)
                  have HPbw9 := Lib.hid (HPbw6.out.by hb9)
                  have hsw9 := hb9.size
                  obtain ⟨M, hMe⟩ : ∃ M, w6.heap.size = M := ⟨_, rfl⟩
                  rw [hMe] at kM9 ⊢
                  have hM1 : w6.heap.size ≤ M := Nat.le_of_eq hMe
                  have hM2 : M ≤ w6.heap.size := Nat.le_of_eq hMe.symm
                  clear hb9 hMe
                  generalize w6.alloc (.cells #[.int .i64 (n : Int), .slice a1 la c1, .slice a2 pa c2, .int .i64 (n : Int), .slice b1 la d1, .slice b2 pa d2, .slice none 0 0, .slice none 0 0, .slice none 0 0, .slice none 0 0, .slice none 0 0, .slice none 0 0, .slice (some ⟨U, 0, none⟩) n n, .func (.func gY) #[] lY, .slice (some ⟨NA, 0, none⟩) n n, .slice (some ⟨NB, 0, none⟩) n n] 79) = w9 at *
                  refine hK.out _ _ (fun _ => ⟨kAw9, kBw9⟩) ?_
                  try simp only [Act.put, List.setIfInBounds_toArray, List.set_cons_zero, List.set_cons_succ]
                  refine wpAnyE_oneL (k := 12) (by kernel_rfl) rfl (fun K hK => ?_)
                  go_simp
                  refine hK.out _ _ (fun h => absurd rfl h) ?_
                  refine wpAnyE_done (by kernel_rfl) ?_ _
                  go_wp2
                  go_meet
                  exact ⟨M, U, NA, NB, sa, ta, sb, tb, rfl, kM9, HUw9.out, HPaw9.out, HPbw9.out, by omega, fun k h1 h2 => ⟨by omega, by omega⟩, fun k h1 h2 => ⟨by omega, by omega⟩, ⟨by omega, by omega, by omega, by omega⟩, ⟨by omega, by omega, by omega, by omega⟩, hbzw9⟩
            case rest =>
              obtain ⟨M, U, NA, NB, la1, ha1, lb1, hb1, rfl, kM, hU, hLA, hLB, hMU, hra, hrb, ⟨z1, z2, z3, z4⟩, ⟨z5, z6, z7, z8⟩, hbc⟩ := hcut
              dsimp only at kM
              have HUx := Lib.hid hU
              have HLAx := Lib.hid hLA
              have HLBx := Lib.hid hLB
              have HRA := Lib.hid hra
              have HRB := Lib.hid hrb
              have kAc := Blk.by hbc kA
              have kBc := Blk.by hbc kB
              have hbw := below_on hbc hb
              have hsw := hb.size
              have hBl := kB.lt
              have qA := kAc.cell
              have lA := kAc.lt
              clear hU hLA hLB hra hrb hbc kA kB hb
              go_wp2_with fail
              refine (HRX.out _ wc (HV.out.by hbw)).mono ?_
              rintro e w1 ⟨sa, sc, ta, LA, tc, qa, rfl, hO1, hO2, hL1, hb1'⟩
              have HO1 := Lib.hid hO1
              have kM1 := Blk.by hb1' kM
              have kB1 := Blk.by hb1' kBc
              have hs1 := hb1'.size
              have hbw1 := below_on hb1' hbw
              have HU1 := Lib.hid (HUx.out.by hb1')
              have HLA1 := Lib.hid (HLAx.out.by hb1')
              have HLB1 := Lib.hid (HLBx.out.by hb1')
              have cM1 := kM1.cell
              have fM1 := kM1.free
              have lM1 := kM1.lt
              have cB1 := kB1.cell
              have lB1 := kB1.lt
              have hMB : ¬ M = w.heap.size + 1 := by omega
              have hMB' : ¬ w.heap.size + 1 = M := by omega
              clear hO1 hO2 hL1 kM hb1' qA lA HUx HLAx HLBx kBc kAc hbw
              go_wp2_with fail
              have kM2 : Blk ((w1.setCell ⟨M, 6, none⟩ (.slice sa n sc)).setCell ⟨M, 7, none⟩ (.slice ta LA tc)) M #[.int .i64 (n : Int), .slice a1 la c1, .slice a2 pa c2, .int .i64 (n : Int), .slice b1 la d1, .slice b2 pa d2, .slice sa n sc, .slice ta LA tc, .slice none 0 0, .slice none 0 0, .slice none 0 0, .slice none 0 0, .slice (some ⟨U, 0, none⟩) n n, .func (.func gY) #[] lY, .slice (some ⟨NA, 0, none⟩) n n, .slice (some ⟨NB, 0, none⟩) n n] 79 := (kM1.set 6 _).set 7 _
              have hX2 : Exc (fun b => b = M) w1 ((w1.setCell ⟨M, 6, none⟩ (.slice sa n sc)).setCell ⟨M, 7, none⟩ (.slice ta LA tc)) := (Exc.set (E := fun b => b = M) (Exc.refl _ w1) M 6 _ (fun _ => rfl)).set M 7 _ (fun _ => rfl)
              have hs2 : w1.heap.size ≤ ((w1.setCell ⟨M, 6, none⟩ (.slice sa n sc)).setCell ⟨M, 7, none⟩ (.slice ta LA tc)).heap.size := by simp
              generalize (w1.setCell ⟨M, 6, none⟩ (.slice sa n sc)).setCell ⟨M, 7, none⟩ (.slice ta LA tc) = w2 at *
              have kB2 := hX2.blk kB1 hMB'
              have hbw2 : Below w.heap.size w w2 := hX2.below hbw1 (fun k hk (e : k = M) => by omega)
              have HX2 := Lib.hid hX2
              clear hX2 kM1 cM1 fM1 lM1 cB1 lB1 kB1
              refine (HRY.out _ w2 (HU.out.by hbw2)).mono ?_
              rintro e w3 ⟨sb, sd, tb, LB, td, qb, rfl, hO3, hO4, hL3, hb3⟩
              have HO3 := Lib.hid hO3
              have kM3 := Blk.by hb3 kM2
              have kB3 := Blk.by hb3 kB2
              have hs3 := hb3.size
              have hbw3 := below_on hb3 hbw2
              have HX3 := Lib.hid (HX2.out.on (Exc.ofBelow (E := fun b => b = M) hb3))
              have cM3 := kM3.cell
              have fM3 := kM3.free
              have lM3 := kM3.lt
              have cB3 := kB3.cell
              have lB3 := kB3.lt
              clear hO3 hO4 hL3 hb3 kM2 kB2 HX2
              go_upto_region 10 with fail
              have kM4 : Blk ((w3.setCell ⟨M, 8, none⟩ (.slice sb n sd)).setCell ⟨M, 9, none⟩ (.slice tb LB td)) M #[.int .i64 (n : Int), .slice a1 la c1, .slice a2 pa c2, .int .i64 (n : Int), .slice b1 la d1, .slice b2 pa d2, .slice sa n sc, .slice ta LA tc, .slice sb n sd, .slice tb LB td, .slice none 0 0, .slice none 0 0, .slice (some ⟨U, 0, none⟩) n n, .func (.func gY) #[] lY, .slice (some ⟨NA, 0, none⟩) n n, .slice (some ⟨NB, 0, none⟩) n n] 79 := (kM3.set 8 _).set 9 _
              have hX4 : Exc (fun b => b = M) w3 ((w3.setCell ⟨M, 8, none⟩ (.slice sb n sd)).setCell ⟨M, 9, none⟩ (.slice tb LB td)) := (Exc.set (E := fun b => b = M) (Exc.refl _ w3) M 8 _ (fun _ => rfl)).set M 9 _ (fun _ => rfl)
              have hs4 : w3.heap.size ≤ ((w3.setCell ⟨M, 8, none⟩ (.slice sb n sd)).setCell ⟨M, 9, none⟩ (.slice tb LB td)).heap.size := by simp
              generalize (w3.setCell ⟨M, 8, none⟩ (.slice sb n sd)).setCell ⟨M, 9, none⟩ (.slice tb LB td) = wD at *
              have kB4 := hX4.blk kB3 hMB'
              have hbw4 : Below w.heap.size w wD := hX4.below hbw3 (fun k hk (e : k = M) => by omega)
              have HX14 := Lib.hid (HX3.out.on hX4)
              have HO14 := Lib.hid (OwnR.exc HX14.out HO1.out (fun k h1 h2 (e : k = M) => by omega))
              have HO34 := Lib.hid (OwnR.exc hX4 HO3.out (fun k h1 h2 (e : k = M) => by omega))
              have HU4 := Lib.hid (UsedB.exc HX14.out HU1.out (fun (e : U = M) => hMU e.symm))
              have HLA4 := Lib.hid (HLA1.out.exc HX14.out (fun k h1 h2 (e : k = M) => (HRA.out k h1 h2).1 e))
              have HLB4 := Lib.hid (HLB1.out.exc HX14.out (fun k h1 h2 (e : k = M) => (HRB.out k h1 h2).1 e))
              have cB4 := kB4.cell
              have lB4 := kB4.lt
              have hMD : M < wD.heap.size := by omega
              clear hX4 HX14 HX3 HU1 HLA1 HLB1 HO1 HO3 kM3 cM3 fM3 lM3 cB3 lB3 kB3
              have HTK0 := Lib.hid (show (y.ds.map nzD).take 0 = [] from rfl)
              go_wp2
              clear cB4 lB4
              go_loopw [83] (fun iv wr => ∃ (k hi c : Nat) (ga : Option Addr), k ≤ la ∧ iv = .int .i64 (k : Int) ∧ Blk wr M #[.int .i64 (n : Int), .slice a1 la c1, .slice a2 pa c2, .int .i64 (n : Int), .slice b1 la d1, .slice b2 pa d2, .slice sa n sc, .slice ta LA tc, .slice sb n sd, .slice tb LB td, .slice ga k c, .slice none 0 0, .slice (some ⟨U, 0, none⟩) n n, .func (.func gY) #[] lY, .slice (some ⟨NA, 0, none⟩) n n, .slice (some ⟨NB, 0, none⟩) n n] 79 ∧ Hid (Bld wr wD.heap.size hi (.slice ga k c) ((y.ds.map nzD).take k)) ∧ wD.heap.size ≤ hi ∧ hi ≤ wr.heap.size ∧ Blk wr (w.heap.size + 1) #[.int .i64 (n : Int), .slice b1 la d1, .slice b2 pa d2] 27 ∧ Hid (Exc (fun b => b = M) wD wr)) (fun iv _ => la - (intOf iv).toNat)
              case atStart => exact ⟨0, wD.heap.size, 0, none, Nat.zero_le _, rfl, kM4, Lib.hid (by rw [HTK0.out]; exact Bld.nil wD _), Nat.le_refl _, Nat.le_refl _, kB4, Lib.hid (Exc.refl _ _)⟩
              case round =>
                clear kM4 kB4
                obtain ⟨k, hi, c, ga, hk, rfl, kM, HB, hhi, hhs, kB, HX⟩ := hrel
                have hbr : Below w.heap.size w wr := HX.out.below hbw4 (fun k hk (e : k = M) => by omega)
                have hsr := HX.out.size
                by_cases hlt : k < la
                · have i1 : (k : Int) < (la : Int) := by omega
                  have i2 : decide (k < la) = true := decide_eq_true hlt
                  obtain ⟨d, hd⟩ : ∃ d, y.ds[k]? = some d := ⟨_, List.getElem?_eq_getElem (by rw [HLB.out]; exact hlt)⟩
                  have hpd := HPY3.out d (List.mem_of_getElem? hd)
                  have HTK := Lib.hid (show (y.ds.map nzD).take (k + 1) = (y.ds.map nzD).take k ++ [nzD d] from take_snoc_of _ k _ (by rw [List.getElem?_map, hd]; rfl))
                  have HTL := Lib.hid (show ((y.ds.map nzD).take k).length = k from by rw [List.length_take, List.length_map, HLB.out]; omega)
                  rcases HDY.out with ⟨_, _, _, h2⟩ | ⟨xb, xo, xc, he, _, _, h4⟩
                  · rw [h2] at hd; simp at hd
                  obtain ⟨rfl, rfl⟩ : b1 = some ⟨xb, xo, none⟩ ∧ d1 = xc := by
                    simp only [Value.slice.injEq] at he
                    exact ⟨he.1, he.2.2⟩
                  obtain ⟨sx, x1, x2, x3, x4, x5⟩ := (h4 k d hd).by hbr
                  obtain ⟨px, cx, rfl⟩ := x5.len
                  have HX5 := Lib.hid x5
                  have HPD := Lib.hid hpd
                  obtain ⟨kd, pins, wd, ln⟩ := d
                  dsimp only at x1 x2 x3 x4 HX5 HPD
                  have HNZ := Lib.hid (show nzD ⟨kd, pins, wd, ln⟩ = ⟨kd, normz kd pins, wd, ln⟩ from rfl)
                  obtain ⟨P, hP⟩ : ∃ P, pins.length = P := ⟨_, rfl⟩
                  rw [hP] at x2 HX5
                  have HPL := Lib.hid hP
                  have lx := lt_of_cell x1
                  dsimp only at lx
                  clear hd he h4 x5 hpd hP
                  go_upto_region 13 with fail
                  obtain ⟨wE, hwE⟩ : ∃ z : World, z = wr.alloc (.cells #[.int .i64 kd, .slice px P cx, .int .i64 wd, .int .i64 ln] 54) := ⟨_, rfl⟩
                  have kD : Blk wE wr.heap.size #[.int .i64 kd, .slice px P cx, .int .i64 wd, .int .i64 ln] 54 := by rw [hwE]; exact Blk.new _ rfl
                  have hbE : Below wr.heap.size wr wE := by rw [hwE]; exact (Below.refl _ wr).alloc (Nat.le_refl _) _
                  have hsE : wr.heap.size < wE.heap.size := by rw [hwE]; simp
                  (try rw [← hwE])
                  have kME := Blk.by hbE kM
                  have kBE := Blk.by hbE kB
                  have HBE := Lib.hid (HB.out.by hbE)
                  have HXE := Lib.hid (HX.out.on (Exc.ofBelow (E := fun b => b = M) hbE))
                  clear hwE x1 x2 x3 x4 lx kM kB HB HX
                  have hS : (fun w' : World => Blk w' wr.heap.size #[.int .i64 kd, .slice px P cx, .int .i64 wd, .int .i64 ln] 54 ∧ Blk w' M #[.int .i64 (n : Int), .slice a1 la c1, .slice a2 pa c2, .int .i64 (n : Int), .slice (some ⟨xb, xo, none⟩) la d1, .slice b2 pa d2, .slice sa n sc, .slice ta LA tc, .slice sb n sd, .slice tb LB td, .slice ga k c, .slice none 0 0, .slice (some ⟨U, 0, none⟩) n n, .func (.func gY) #[] lY, .slice (some ⟨NA, 0, none⟩) n n, .slice (some ⟨NB, 0, none⟩) n n] 79) { wE with drawn := wE.drawn + 1 } := ⟨kD.drew, kME.drew⟩
                  refine wp_region_any (by kernel_rfl) (wpAny_of_E (S := fun w' : World => Blk w' wr.heap.size #[.int .i64 kd, .slice px P cx, .int .i64 wd, .int .i64 ln] 54 ∧ Blk w' M #[.int .i64 (n : Int), .slice a1 la c1, .slice a2 pa c2, .int .i64 (n : Int), .slice (some ⟨xb, xo, none⟩) la d1, .slice b2 pa d2, .slice sa n sc, .slice ta LA tc, .slice sb n sd, .slice tb LB td, .slice ga k c, .slice none 0 0, .slice (some ⟨U, 0, none⟩) n n, .func (.func gY) #[] lY, .slice (some ⟨NA, 0, none⟩) n n, .slice (some ⟨NB, 0, none⟩) n n] 79) (l := 11) _ _ _ _ ?_)
                  change wpAnyE _ _ _ _ _ _ _ _ _ wE.drew
                  refine wpAnyE_takeL (i := 0) (v := ?_) rfl (by kernel_rfl) (fun _ _ _ h => h) (Or.inl ⟨by rfl, ?_⟩) hS ?_
                  rotate_left
                  · intro w hSw; (try dsimp only at hSw); have qD := hSw.1.cell; have qM := hSw.2.cell; have lD := hSw.1.lt; have lM := hSw.2.lt; clear hSw; go_simp; (try with_reducible rfl)
                  try simp only [Act.put, List.setIfInBounds_toArray, List.set_cons_zero, List.set_cons_succ]
                  refine wpAnyE_takeL (i := 1) (v := ?_) rfl (by kernel_rfl) (fun _ _ _ h => h) (Or.inl ⟨by rfl, ?_⟩) hS ?_
                  rotate_left
                  · intro w hSw; (try dsimp only at hSw); have qD := hSw.1.cell; have qM := hSw.2.cell; have lD := hSw.1.lt; have lM := hSw.2.lt; clear hSw; go_simp; (try with_reducible rfl)
                  try simp only [Act.put, List.setIfInBounds_toArray, List.set_cons_zero, List.set_cons_succ]
                  refine wpAnyE_takeL (i := 2) (v := ?_) rfl (by kernel_rfl) (fun _ _ _ h => h) (Or.inl ⟨by rfl, ?_⟩) hS ?_
                  rotate_left
                  · intro w hSw; (try dsimp only at hSw); have qD := hSw.1.cell; have qM := hSw.2.cell; have lD := hSw.1.lt; have lM := hSw.2.lt; clear hSw; go_simp; (try with_reducible rfl)
                  try simp only [Act.put, List.setIfInBounds_toArray, List.set_cons_zero, List.set_cons_succ]
                  refine wpAnyE_takeL (i := 3) (v := ?_) rfl (by kernel_rfl) (fun _ _ _ h => h) (Or.inl ⟨by rfl, ?_⟩) hS ?_
                  rotate_left
                  · intro w hSw; (try dsimp only at hSw); have qD := hSw.1.cell; have qM := hSw.2.cell; have lD := hSw.1.lt; have lM := hSw.2.lt; clear hSw; go_simp; (try with_reducible rfl)
                  try simp only [Act.put, List.setIfInBounds_toArray, List.set_cons_zero, List.set_cons_succ]
                  refine wpAnyE_takeL (i := 4) (v := ?_) rfl (by kernel_rfl) (fun _ _ _ h => h) (Or.inl ⟨by rfl, ?_⟩) hS ?_
                  rotate_left
                  · intro w hSw; (try dsimp only at hSw); have qD := hSw.1.cell; have qM := hSw.2.cell; have lD := hSw.1.lt; have lM := hSw.2.lt; clear hSw; go_simp; (try with_reducible rfl)
                  try simp only [Act.put, List.setIfInBounds_toArray, List.set_cons_zero, List.set_cons_succ]
                  refine wpAnyE_takeL (i := 5) (v := ?_) rfl (by kernel_rfl) (fun _ _ _ h => h) (Or.inl ⟨by rfl, ?_⟩) hS ?_
                  rotate_left
                  · intro w hSw; (try dsimp only at hSw); have qD := hSw.1.cell; have qM := hSw.2.cell; have lD := hSw.1.lt; have lM := hSw.2.lt; clear hSw; go_simp; (try with_reducible rfl)
                  try simp only [Act.put, List.setIfInBounds_toArray, List.set_cons_zero, List.set_cons_succ]
                  refine wpAnyE_oneL (k := 6) (by kernel_rfl) rfl (fun K hK => ?_)
                  go_simp
                  go_at_call 22
                  refine (HNM.out kd wd ln (.slice px P cx) pins wE.drew ((HX5.out.by hbE).by (below_of_drewN wE 1)) (by have := HPD.out.1; omega)).mono ?_
                  rintro e w5 ⟨v5, rfl, hO5, hb5⟩
                  have hb5E : Below wE.heap.size wE w5 := below_on hb5 (below_of_drewN wE 1)
                  have kD5 := Blk.by hb5E kD
                  have kM5 := Blk.by hb5E kME
                  have kB5 := Blk.by hb5E kBE
                  have HB5 := Lib.hid (HBE.out.by hb5E)
                  have HX5' := Lib.hid (HXE.out.on (Exc.ofBelow (E := fun b => b = M) hb5E))
                  have hs5 := hb5E.size
                  obtain ⟨f, hf1, hf2, hOf⟩ := OwnI.pin hO5 (fun e => by have h' := congrArg List.length e; rw [length_normz] at h'; have := HPD.out.2; simp at h'; rw [h'] at this; simp at this)
                  have hf3 : wE.heap.size ≤ f := hf1
                  have HOF := Lib.hid hOf
                  clear hS hO5 hOf hb5 hf1 hb5E
                  refine hK.out _ _ (fun _ => ⟨kD5, kM5⟩) ?_
                  try simp only [Act.put, List.setIfInBounds_toArray, List.set_cons_zero, List.set_cons_succ]
                  refine wpAnyE_oneL (k := 7) (by kernel_rfl) rfl (fun K hK => ?_)
                  go_simp
                  have kZ6 : Blk (w5.alloc (.cells #[.int .i64 kd, v5, .int .i64 wd, .int .i64 ln] 54)) w5.heap.size #[.int .i64 kd, v5, .int .i64 wd, .int .i64 ln] 54 := Blk.new _ rfl
                  have hb6 : Below w5.heap.size w5 (w5.alloc (.cells #[.int .i64 kd, v5, .int .i64 wd, .int .i64 ln] 54)) := (Below.refl _ w5).alloc (Nat.le_refl _) _
                  have hs6 : (w5.alloc (.cells #[.int .i64 kd, v5, .int .i64 wd, .int .i64 ln] 54)).heap.size ≤ w5.heap.size + 1 := by simp
                  have hs6' : w5.heap.size + 1 ≤ (w5.alloc (.cells #[.int .i64 kd, v5, .int .i64 wd, .int .i64 ln] 54)).heap.size := by simp
                  have kD6 := Blk.by hb6 kD5
                  have kM6 := Blk.by hb6 kM5
                  have kB6 := Blk.by hb6 kB5
                  have HB6 := Lib.hid (HB5.out.by hb6)
                  have HX6 := Lib.hid (HX5'.out.on (Exc.ofBelow (E := fun b => b = M) hb6))
                  have HOF6 := Lib.hid (OwnR.by hb6 HOF.out)
                  obtain ⟨Z6, hZ6⟩ : ∃ Z, w5.heap.size = Z := ⟨_, rfl⟩
                  rw [hZ6] at kZ6 hs6 hs6' hs5 hf2 ⊢
                  clear hZ6 hb6 HOF kD5 kM5 kB5 HB5 HX5'
                  generalize w5.alloc (.cells #[.int .i64 kd, v5, .int .i64 wd, .int .i64 ln] 54) = w6 at *
                  refine hK.out _ _ (fun _ => ⟨kD6, kM6⟩) ?_
                  try simp only [Act.put, List.setIfInBounds_toArray, List.set_cons_zero, List.set_cons_succ]
                  refine wpAnyE_oneL (k := 8) (by kernel_rfl) rfl (fun K hK => ?_)
                  refine step_pushDN (by rfl) _ _ (by rfl) wD.heap.size hi k (.slice ga k c) ((y.ds.map nzD).take k) HTL.out (by rfl) HB6.out Z6 ⟨kd, normz kd pins, wd, ln⟩ v5 f (by rfl) kZ6 HOF6.out (by omega) (by omega) (by omega) (by omega) ?_
                  intro g7 c7 w7 hB7 hW7
                  rw [← HNZ.out, ← HTK.out] at hB7
                  have kD7 := hW7.blk kD6 (.inr (by omega))
                  have kM7 := hW7.blk kM6 (.inl (by omega))
                  have kB7 := hW7.blk kB6 (.inl (by omega))
                  have HX7 := Lib.hid (HX6.out.thn (Exc.ofWithin (E := fun b => wD.heap.size ≤ b) hW7 (fun q h1 h2 => h1)) (fun q hq h => by omega))
                  have hs7 := hW7.size
                  have HB7 := Lib.hid hB7
                  clear hB7 hW7 kD6 kM6 kB6 HB6 HX6
                  refine hK.out _ _ (fun _ => ⟨kD7, kM7⟩) ?_
                  try simp only [Act.put, List.setIfInBounds_toArray, List.set_cons_zero, List.set_cons_succ]
                  refine wpAnyE_oneL (k := 9) (by kernel_rfl) rfl (fun K hK => ?_)
                  go_simp
                  refine hK.out _ _ (fun _ => ⟨kD7, kM7⟩) ?_
                  try simp only [Act.put, List.setIfInBounds_toArray, List.set_cons_zero, List.set_cons_succ]
                  refine wpAnyE_oneL (k := 10) (by kernel_rfl) rfl (fun K hK => ?_)
                  go_simp
                  refine hK.out _ _ (fun _ => ⟨kD7, kM7⟩) ?_
                  try simp only [Act.put, List.setIfInBounds_toArray, List.set_cons_zero, List.set_cons_succ]
                  refine wpAnyE_oneL (k := 11) (by kernel_rfl) rfl (fun K hK => ?_)
                  have cM7 := kM7.cell
                  have fM7 := kM7.free
                  have lM7 := kM7.lt
                  go_simp
                  refine hK.out _ _ (fun h => absurd rfl h) ?_
                  refine wpAnyE_done (by kernel_rfl) ?_ _
                  have kM8 : Blk (w7.setCell ⟨M, 10, none⟩ (.slice g7 (k + 1) c7)) M #[.int .i64 (n : Int), .slice a1 la c1, .slice a2 pa c2, .int .i64 (n : Int), .slice (some ⟨xb, xo, none⟩) la d1, .slice b2 pa d2, .slice sa n sc, .slice ta LA tc, .slice sb n sd, .slice tb LB td, .slice g7 (k + 1) c7, .slice none 0 0, .slice (some ⟨U, 0, none⟩) n n, .func (.func gY) #[] lY, .slice (some ⟨NA, 0, none⟩) n n, .slice (some ⟨NB, 0, none⟩) n n] 79 := kM7.set 10 _
                  have kB8 := kB7.apart M 10 (.slice g7 (k + 1) c7) hMB'
                  have HX8 := Lib.hid (HX7.out.set M 10 (.slice g7 (k + 1) c7) (fun _ => rfl))
                  have HB8 : Hid (Bld (w7.setCell ⟨M, 10, none⟩ (.slice g7 (k + 1) c7)) wD.heap.size w7.heap.size (.slice g7 (k + 1) c7) ((y.ds.map nzD).take (k + 1))) := Lib.hid (Bld.past (Within.off _) HB7.out (.inl (by omega)))
                  clear cM7 fM7 lM7 kM7 kB7 HX7 HB7 kD7
                  go_wp2
                  exact ⟨⟨k + 1, w7.heap.size, c7, g7, by omega, by go_num, kM8, HB8, by omega, by simp, kB8, HX8⟩, by simp [intOf]; omega⟩
                · obtain rfl : la = k := by omega
                  have i1 : ¬ (la : Int) < (la : Int) := by omega
                  have HTA := Lib.hid (show (y.ds.map nzD).take la = y.ds.map nzD from List.take_of_length_le (by rw [List.length_map, HLB.out]; exact Nat.le_refl _))
                  rw [HTA.out] at HB
                  have hX : Exc (fun b => b = M) wD wr := HX.out
                  have HOA := Lib.hid (OwnR.exc hX HO14.out (fun k h1 h2 (e : k = M) => by omega))
                  have HOB := Lib.hid (OwnR.exc hX HO34.out (fun k h1 h2 (e : k = M) => by omega))
                  have HUr := Lib.hid (UsedB.exc hX HU4.out (fun (e : U = M) => hMU e.symm))
                  have HLAr := Lib.hid (HLA4.out.exc hX (fun k h1 h2 (e : k = M) => (HRA.out k h1 h2).1 e))
                  have HLBr := Lib.hid (HLB4.out.exc hX (fun k h1 h2 (e : k = M) => (HRB.out k h1 h2).1 e))
                  have HYd := Lib.hid (HC.out.hYs [] w wr HC.out.h0 (fun _ => rfl) (Exc.ofBelow hbr))
                  have HYX := Lib.hid (fun w2 (h2 : Exc (EB M U Y) wr w2) => (show Exc Y w w2 from (Exc.ofBelow (E := Y) hbr).thn h2 (fun q hq h => by
                    rcases h with h | h | h
                    · omega
                    · omega
                    · exact h)))
                  have HRC : Hid (RunC x y (refNet x).1.1 (refNet y).1.1 one n wr.heap.size M U NA NB wD.heap.size hi gY (.slice a1 la c1) (.slice a2 pa c2) (.slice b1 la d1) (.slice b2 pa d2) (.slice sa n sc) (.slice ta LA tc) (.slice sb n sd) (.slice tb LB td) (.slice ga la c) (n : Int) lY Y Yd wr) := Lib.hid {
                    hx := HX'.out
                    hy := HY.out
                    hxy := by rw [HNX.out, HNY2.out]
                    hpl := by rw [HPA.out, HPB2.out]
                    hnn := HNX.out
                    hlx := by rw [HLA.out]; exact hlx
                    hly := by rw [HLB.out]; exact hlx
                    hJ := rfl
                    hMJ := by omega
                    hUJ := by omega
                    hMU := hMU
                    hYM := fun h => by have := HC.out.hYl M h; omega
                    hYU := fun h => by have := HC.out.hYl U h; omega
                    hYJ := fun b h => by have := HC.out.hYl b h; omega
                    hlo := hhs
                    hA := fun w2 h2 => (nlV_dp (HC.out.hV w2 (HYX.out w2 h2))).1
                    hcx := by have := (ref_lens HX'.out).1; rw [HNX.out] at this; omega
                    hcy := by have := (ref_lens HY.out).1; rw [HNY2.out] at this; omega
                    hCA := fun w2 h2 => (OwnR.exc h2 HOA.out (fun k h1 h2' h3 => by
                      rcases h3 with h3 | h3 | h3
                      · omega
                      · omega
                      · have := HC.out.hYl k h3; omega)).sl
                    hCB := fun w2 h2 => (OwnR.exc h2 HOB.out (fun k h1 h2' h3 => by
                      rcases h3 with h3 | h3 | h3
                      · omega
                      · omega
                      · have := HC.out.hYl k h3; omega)).sl
                    hD := fun w2 h2 => OwnDs.exc h2 HB.out.own (fun k h1 h2' h3 => by
                      rcases h3 with h3 | h3 | h3
                      · omega
                      · omega
                      · have := HC.out.hYl k h3; omega)
                    hPA := fun w2 h2 k hk => by
                      obtain ⟨N', s, e1, e2, e3, _⟩ := (HLAr.out.exc h2 (fun k h1 h2' h3 => by
                        rcases h3 with h3 | h3 | h3
                        · exact (HRA.out k h1 h2').1 h3
                        · exact (HRA.out k h1 h2').2 h3
                        · have := HC.out.hYl k h3; omega)).row (j := k) (xs := portTo x.ps (k : Int) x.ps.length) (by unfold netL; rw [List.getElem?_map, List.getElem?_range hk]; rfl)
                      simp only [Value.slice.injEq, Option.some.injEq, Addr.mk.injEq, and_true] at e1
                      obtain ⟨rfl, _⟩ := e1
                      exact ⟨s, e2, e3⟩
                    hPB := fun w2 h2 k hk => by
                      obtain ⟨N', s, e1, e2, e3, _⟩ := (HLBr.out.exc h2 (fun k h1 h2' h3 => by
                        rcases h3 with h3 | h3 | h3
                        · exact (HRB.out k h1 h2').1 h3
                        · exact (HRB.out k h1 h2').2 h3
                        · have := HC.out.hYl k h3; omega)).row (j := k) (xs := portTo y.ps (k : Int) y.ps.length) (by unfold netL; rw [List.getElem?_map, List.getElem?_range hk]; rfl)
                      simp only [Value.slice.injEq, Option.some.injEq, Addr.mk.injEq, and_true] at e1
                      obtain ⟨rfl, _⟩ := e1
                      exact ⟨s, e2, e3⟩
                    eg := HC.out.eg
                    hY := fun zs z sv w2 h1 h2 h3 h4 h5 h6 h7 => HC.out.hY HPY.out zs z sv w2 h1 h2 (HYX.out w2 h3) h4 (by rw [HNX.out]; exact h5) (by rw [HNX.out]; exact h6) h7
                    hYs := fun zs w2 w3 h1 h2 h3 => HC.out.hYs zs w2 w3 h1 h2 (h3.mono (fun q hq h => by
                      rcases h with h | h | h
                      · omega
                      · omega
                      · omega)) }
                  have HRUN := Lib.hid (run_any _ _ _ _ _ _ _ _ _ _ _ _ _ _ _ _ _ _ _ _ _ _ _ _ _ _ _ _ HRC.out n [] [] (.slice none 0 0) wr kM (BldI.nil wr _) HUr.out (Exc.refl _ _) HYd.out (fun _ => rfl) ⟨by simp, by simp⟩ (by simp) (fit_root HX'.out HY.out (by rw [HNX.out, HNY2.out]) (by rw [HPA.out, HPB2.out])))
                  have HSS := Lib.hid (show srch (fitB x y) (colB (refNet x).1.1 (refNet y).1.1) n one n [] = ismS x y one from by
                    unfold ismS
                    rw [if_pos HPY.out]
                    unfold srchS
                    rw [HNX.out, Int.toNat_natCast])
                  rw [HSS.out] at HRUN
                  clear HRC HB HX HOA HOB HUr HLAr HLBr HO14 HO34 HU4 HLA4 HLB4
                  go_wp2_with fail
                  refine HRUN.out.mono ?_
                  rintro e w9 ⟨rfl, hY9, hE9, _⟩
                  have HY9 := Lib.hid hY9
                  have HE9 := Lib.hid (HYX.out w9 hE9)
                  clear hY9 hE9
                  go_wp2
                  go_end0
                  exact ⟨by rfl, HY9.out, HE9.out⟩
      · have e1 : ((pa : Int) == (pb : Int)) = false := by simp; omega
        have e2 : ((pa : Int) != (pb : Int)) = true := by simp; omega
        have HNP := Lib.hid (show preB x y = false from by
          have h1 : ¬ namD x.ps y.ps = -1 := fun h => hpp (by have := (namD_no h).1; rw [HPA.out, HPB2.out] at this; exact this.symm)
          rw [HPB.out, decide_eq_false h1]; simp)
        clear hpp
        go_enter Tryz.func14, Tryz.ntmps14
        go_wp2
        refine bodyPost_ret (v := .tuple #[]) (by simp [results, Tryz.results14, go_sem, *]) rfl ⟨rfl, HNO.out _ blwT HNP.out⟩
    · have e1 : ((la : Int) == (lb : Int)) = false := by simp; omega
      have e2 : ((la : Int) != (lb : Int)) = true := by simp; omega
      have HNP := Lib.hid (show preB x y = false from by rw [HPB.out, decide_eq_false hl]; simp)
      clear hl
      go_enter Tryz.func14, Tryz.ntmps14
      go_wp2
      refine bodyPost_ret (v := .tuple #[]) (by simp [results, Tryz.results14, go_sem, *]) rfl ⟨rfl, HNO.out _ blwT HNP.out⟩
  · have e1 : (nx == ny) = false := by simpa using hn
    have e2 : (nx != ny) = true := by simpa using hn
    have HNP := Lib.hid (show preB x y = false from by rw [HPB.out, decide_eq_false hn]; rfl)
    clear hn
    go_enter Tryz.func14, Tryz.ntmps14
    go_wp2
    refine bodyPost_ret (v := .tuple #[]) (by simp [results, Tryz.results14, go_sem, *]) rfl ⟨rfl, HNO.out _ blwT HNP.out⟩
set_option maxRecDepth 100000 in
set_option maxHeartbeats 4000000 in
theorem cmp1_any (x y : Nl) (z : List Int) (A B O F : Nat) (nx ny : Int) (a1 a2 b1 b2 : Option Addr) (c1 c2 d1 d2 n p n2 p2 : Nat) (sv : Value) (w : World) (kA : Blk w A #[.int .i64 nx, .slice a1 n c1, .slice a2 p c2] 27) (kB : Blk w B #[.int .i64 ny, .slice b1 n2 d1, .slice b2 p2 d2] 27) (kO : Blk w O #[.slice none 0 0, .slice none 0 0] 32) (kF : Blk w F #[.bool false] 4)
    (hOF : O ≠ F) (hAO : A ≠ O) (hAF : A ≠ F) (hBO : B ≠ O) (hBF : B ≠ F) (hV : NlV w (.agg #[.int .i64 nx, .slice a1 n c1, .slice a2 p c2]) x) (hU : NlV w (.agg #[.int .i64 ny, .slice b1 n2 d1, .slice b2 p2 d2]) y) (hz : IntSl w sv z) (hzl : z.length ≤ 1000) (hx : nlB x = true) (hy : nlB y = true) (hll : y.ds.length = x.ds.length) (hzn : x.nets ≤ (z.length : Int)) (hperm : (x.ds.map fun d => nzD (renD z d)).Perm (y.ds.map nzD)) :
    Calls Tryz.prog 15 #[sv, .pointer (some ⟨A, 0, none⟩), .pointer (some ⟨B, 0, none⟩), .pointer (some ⟨O, 0, none⟩), .pointer (some ⟨F, 0, none⟩)] w fun e w' => e = .returned (.bool false) ∧ (∃ s1 s2 m, Blk w' O #[s1, s2] 32 ∧ Blk w' F #[.bool true] 4 ∧ OwnR w' w.heap.size m s1 z ∧ OwnR w' m w'.heap.size s2 (cpS x y z) ∧ w.heap.size ≤ m ∧ m ≤ w'.heap.size) ∧ Blk w' A #[.int .i64 nx, .slice a1 n c1, .slice a2 p c2] 27 ∧ Blk w' B #[.int .i64 ny, .slice b1 n2 d1, .slice b2 p2 d2] 27 ∧ Exc (fun b => b = O ∨ b = F) w w' := by
  have HZ := Lib.hid hz
  have HV := Lib.hid hV
  have HU := Lib.hid hU
  have HCL := Lib.hid (fun sv w h => clone_any sv z w h (by omega))
  have HCP := Lib.hid (fun v u sz w h h' hz => counterparts_any x y z v u sz w h h' hz hx hy hll hzn hperm)
  obtain ⟨az, cz, rfl⟩ := hz.len
  obtain ⟨m, hm⟩ : ∃ m, z.length = m := ⟨_, rfl⟩
  rw [hm] at HZ ⊢
  clear hV hU hz hx hy hll hzn hperm hm hzl
  go_enter Tryz.func15, Tryz.ntmps15
  go_upto_region 1 with fail
  have hS : (fun w' : World => Blk w' A #[.int .i64 nx, .slice a1 n c1, .slice a2 p c2] 27 ∧ Blk w' B #[.int .i64 ny, .slice b1 n2 d1, .slice b2 p2 d2] 27) { w with drawn := w.drawn + 1 } := ⟨kA.drew, kB.drew⟩
  refine wp_region_any (by kernel_rfl) (wpAny_of_E (S := fun w' : World => Blk w' A #[.int .i64 nx, .slice a1 n c1, .slice a2 p c2] 27 ∧ Blk w' B #[.int .i64 ny, .slice b1 n2 d1, .slice b2 p2 d2] 27) (l := 8) _ _ _ _ ?_)
  change wpAnyE _ _ _ _ _ _ _ _ _ w.drew
  refine wpAnyE_takeL (i := 0) (v := ?_) rfl (by kernel_rfl) (fun _ _ _ h => h) (Or.inl ⟨by rfl, ?_⟩) hS ?_
  rotate_left
  · intro w hSw; (try dsimp only at hSw); have qA := hSw.1.cell; have qB := hSw.2.cell; have lA := hSw.1.lt; have lB := hSw.2.lt; clear hSw; go_simp; (try with_reducible rfl)
  try simp only [Act.put, List.setIfInBounds_toArray, List.set_cons_zero, List.set_cons_succ]
  refine wpAnyE_takeL (i := 2) (v := ?_) rfl (by kernel_rfl) (fun _ _ _ h => h) (Or.inl ⟨by rfl, ?_⟩) hS ?_
  rotate_left
  · intro w hSw; (try dsimp only at hSw); have qA := hSw.1.cell; have qB := hSw.2.cell; have lA := hSw.1.lt; have lB := hSw.2.lt; clear hSw; go_simp; (try with_reducible rfl)
  try simp only [Act.put, List.setIfInBounds_toArray, List.set_cons_zero, List.set_cons_succ]
  refine wpAnyE_takeL (i := 3) (v := ?_) rfl (by kernel_rfl) (fun _ _ _ h => h) (Or.inl ⟨by rfl, ?_⟩) hS ?_
  rotate_left
  · intro w hSw; (try dsimp only at hSw); have qA := hSw.1.cell; have qB := hSw.2.cell; have lA := hSw.1.lt; have lB := hSw.2.lt; clear hSw; go_simp; (try with_reducible rfl)
  try simp only [Act.put, List.setIfInBounds_toArray, List.set_cons_zero, List.set_cons_succ]
  refine wpAnyE_takeL (i := 4) (v := ?_) rfl (by kernel_rfl) (fun _ _ _ h => h) (Or.inl ⟨by rfl, ?_⟩) hS ?_
  rotate_left
  · intro w hSw; (try dsimp only at hSw); have qA := hSw.1.cell; have qB := hSw.2.cell; have lA := hSw.1.lt; have lB := hSw.2.lt; clear hSw; go_simp; (try with_reducible rfl)
  try simp only [Act.put, List.setIfInBounds_toArray, List.set_cons_zero, List.set_cons_succ]
  refine wpAnyE_oneL (k := 1) (by kernel_rfl) rfl (fun K hK => ?_)
  go_simp
  go_at_call 16
  refine (HCL.out _ w.drew (HZ.out.by (below_of_drewN w 1))).mono ?_
  rintro e w3 ⟨s1, rfl, hO1, hb3⟩
  have hb3w : Below w.heap.size w w3 := below_on hb3 (below_of_drewN w 1)
  have kA3 := Blk.by hb3w kA
  have kB3 := Blk.by hb3w kB
  have kO3 := Blk.by hb3w kO
  have kF3 := Blk.by hb3w kF
  have hs3 := hb3w.size
  have HO1 := Lib.hid (show OwnR w3 w.heap.size w3.heap.size s1 z from hO1.r)
  obtain ⟨e1, f1, rfl⟩ := hO1.sl.len
  clear hS hO1 hb3
  refine hK.out _ _ (fun _ => ⟨kA3, kB3⟩) ?_
  try simp only [Act.put, List.setIfInBounds_toArray, List.set_cons_zero, List.set_cons_succ]
  refine wpAnyE_oneL (k := 5) (by kernel_rfl) rfl (fun K hK => ?_)
  go_simp
  go_at_call 17
  refine (HCP.out _ _ _ w3 (HV.out.by hb3w) (HU.out.by hb3w) (HZ.out.by hb3w)).mono ?_
  rintro e w5 ⟨s2, rfl, hO2, hb5⟩
  have kA5 := Blk.by hb5 kA3
  have kB5 := Blk.by hb5 kB3
  have kO5 := Blk.by hb5 kO3
  have kF5 := Blk.by hb5 kF3
  have hs5 := hb5.size
  have HO15 := Lib.hid (OwnR.by hb5 HO1.out)
  have HO25 := Lib.hid hO2
  obtain ⟨e2, f2, rfl⟩ := hO2.sl.len
  have hb5w := below_on hb5 hb3w
  obtain ⟨q1, hq1⟩ : ∃ q, z.length = q := ⟨_, rfl⟩
  obtain ⟨q2, hq2⟩ : ∃ q, (cpS x y z).length = q := ⟨_, rfl⟩
  rw [hq2] at HO25
  rw [hq1] at HO15
  (try rw [hq2])
  (try rw [hq1])
  clear hO2 hb5 kA3 kB3 kO3 kF3 HO1 hb3w hq1 hq2
  have kO6 : Blk ((w5.setCell ⟨O, 0, none⟩ (.slice e1 q1 f1)).setCell ⟨O, 1, none⟩ (.slice e2 q2 f2)) O #[.slice e1 q1 f1, .slice e2 q2 f2] 32 := kO5.set2
  have kF6 := (kF5.apart O 0 (.slice e1 q1 f1) (Ne.symm hOF)).apart O 1 (.slice e2 q2 f2) (Ne.symm hOF)
  have kA6 := (kA5.apart O 0 (.slice e1 q1 f1) hAO).apart O 1 (.slice e2 q2 f2) hAO
  have kB6 := (kB5.apart O 0 (.slice e1 q1 f1) hBO).apart O 1 (.slice e2 q2 f2) hBO
  have cO5 := kO5.cell
  have fO5 := kO5.free
  have lO5 := kO5.lt
  have lOw := kO.lt
  have lFw := kF.lt
  refine hK.out _ _ (fun _ => ⟨kA5, kB5⟩) ?_
  try simp only [Act.put, List.setIfInBounds_toArray, List.set_cons_zero, List.set_cons_succ]
  refine wpAnyE_oneL (k := 6) (by kernel_rfl) rfl (fun K hK => ?_)
  go_simp
  refine hK.out _ _ (fun _ => ⟨kA5, kB5⟩) ?_
  try simp only [Act.put, List.setIfInBounds_toArray, List.set_cons_zero, List.set_cons_succ]
  refine wpAnyE_oneL (k := 7) (by kernel_rfl) rfl (fun K hK => ?_)
  go_simp
  have hX6 : Exc (fun b => b = O ∨ b = F) w5 ((w5.setCell ⟨O, 0, none⟩ (.slice e1 q1 f1)).setCell ⟨O, 1, none⟩ (.slice e2 q2 f2)) := (Exc.set (E := fun b => b = O ∨ b = F) (Exc.refl _ w5) O 0 _ (fun _ => .inl rfl)).set O 1 _ (fun _ => .inl rfl)
  have hs6 : w5.heap.size ≤ ((w5.setCell ⟨O, 0, none⟩ (.slice e1 q1 f1)).setCell ⟨O, 1, none⟩ (.slice e2 q2 f2)).heap.size := by simp
  generalize (w5.setCell ⟨O, 0, none⟩ (.slice e1 q1 f1)).setCell ⟨O, 1, none⟩ (.slice e2 q2 f2) = w6 at *
  refine hK.out _ _ (fun _ => ⟨kA6, kB6⟩) ?_
  try simp only [Act.put, List.setIfInBounds_toArray, List.set_cons_zero, List.set_cons_succ]
  clear cO5 fO5 lO5
  have cF6 := kF6.cell
  have fF6 := kF6.free
  have lF6 := kF6.lt
  refine wpAnyE_oneL (k := 8) (by kernel_rfl) rfl (fun K hK => ?_)
  go_simp
  refine hK.out _ _ (fun h => absurd rfl h) ?_
  refine wpAnyE_done (by kernel_rfl) ?_ _
  have kO7 := kO6.apart F 0 (.bool true) hOF
  have kF7 : Blk (w6.setCell ⟨F, 0, none⟩ (.bool true)) F #[.bool true] 4 := kF6.set1
  have kA7 := kA6.apart F 0 (.bool true) hAF
  have kB7 := kB6.apart F 0 (.bool true) hBF
  have hX7 := (hX6.set F 0 (.bool true) (fun _ => .inr rfl))
  have HX7 := Lib.hid hX7
  have hs7 : w6.heap.size ≤ (w6.setCell ⟨F, 0, none⟩ (.bool true)).heap.size := by simp
  have HS7 := Lib.hid hs7
  have HO17 := Lib.hid (OwnR.exc hX7 HO15.out (fun k h1 h2 h3 => by rcases h3 with h3 | h3 <;> omega))
  have HO27 := Lib.hid (OwnR.exc hX7 HO25.out (fun k h1 h2 h3 => by rcases h3 with h3 | h3 <;> omega))
  have HXW := Lib.hid ((Exc.ofBelow (E := fun b => b = O ∨ b = F) hb5w).on hX7)
  clear hX6 hX7 hs7 kO6 kA6 kB6
  go_wp2
  go_ret
  exact ⟨rfl, ⟨_, _, w3.heap.size, kO7, kF7, HO17.out, OwnR.wide' HO27.out (Nat.le_refl _) (by have := HS7.out; omega), hs3, by have := HS7.out; omega⟩, kA7, kB7, HXW.out⟩
set_option maxRecDepth 100000 in
set_option maxHeartbeats 4000000 in
theorem tooGreat_any (x : Nl) (v : Value) (w : World) (h : NlV w v x) :
    Calls Tryz.prog 13 #[v] w fun e w' => e = .returned (.bool (!smlB x)) ∧ Below w.heap.size w w' := by
  obtain ⟨a1, c1, a2, c2, rfl⟩ := h.sized
  clear h
  unfold smlB
  obtain ⟨nx, hnx⟩ : ∃ N, x.nets = N := ⟨_, rfl⟩
  obtain ⟨n, hn⟩ : ∃ N, x.ds.length = N := ⟨_, rfl⟩
  obtain ⟨p, hp⟩ : ∃ N, x.ps.length = N := ⟨_, rfl⟩
  rw [hnx, hn, hp]
  clear hnx hn hp
  go_enter Tryz.func13, Tryz.ntmps13
  by_cases h1 : nx ≤ 10
  · have e1 : decide (nx ≤ 10) = true := decide_eq_true h1
    have f1 : ¬ nx > 10 := by omega
    have f1' : ¬ (10 : Int) < nx := by omega
    rw [e1, Bool.true_and]
    by_cases h2 : n ≤ 10
    · have e2 : decide (n ≤ 10) = true := decide_eq_true h2
      have e3 : ¬ (10 : Int) < (n : Int) := by omega
      rw [e2]
      go_wp2
      go_ret
      exact ⟨rfl, blwT⟩
    · have e2 : decide (n ≤ 10) = false := decide_eq_false h2
      have e3 : (10 : Int) < (n : Int) := by omega
      rw [e2]
      go_wp2
      go_ret
      exact ⟨rfl, blwT⟩
  · have e1 : decide (nx ≤ 10) = false := decide_eq_false h1
    have f1' : (10 : Int) < nx := by omega
    rw [e1, Bool.false_and]
    go_wp2
    go_ret
    exact ⟨rfl, blwT⟩
theorem cmp_inv {x y : Nl} (h : (nlB x && nlB y) = false) : cmpC x y = 1 ∧ cmpR x y = ([], []) := by
  unfold cmpC cmpR
  rw [if_neg (by rw [h]; simp), if_neg (by rw [h]; simp)]
  exact ⟨rfl, rfl⟩
theorem cmp_big {x y : Nl} (h : (nlB x && nlB y) = true) (h2 : (smlB x && smlB y) = false) : cmpC x y = 3 ∧ cmpR x y = ([], []) := by
  unfold cmpC cmpR
  rw [if_pos h, if_pos h, if_neg (by rw [h2]; simp), if_neg (by rw [h2]; simp)]
  exact ⟨rfl, rfl⟩
theorem cmp_ok {x y : Nl} (h : (nlB x && nlB y) = true) (h2 : (smlB x && smlB y) = true) : cmpC x y = (if (cmpF x y).isSome = true then 0 else 5) ∧ cmpR x y = fstR x y := by
  unfold cmpC cmpR fstR
  rw [if_pos h, if_pos h, if_pos h2, if_pos h2]
  cases cmpF x y <;> exact ⟨rfl, rfl⟩
theorem ownPr_nil0 (w : World) (lo hi : Nat) (h : lo ≤ hi) : OwnPr w lo hi (.agg #[.slice none 0 0, .slice none 0 0]) ([], []) :=
  ⟨_, _, lo, lo, lo, lo, rfl, .inl ⟨_, _, rfl, rfl⟩, .inl ⟨_, _, rfl, rfl⟩, by omega, by omega, .inl (Nat.le_refl _)⟩
def CmpYd (A B O F B0 : Nat) (cA cB : Array Value) (x y : Nl) (zs : List (List Int)) (w : World) : Prop := Blk w A cA 27 ∧ Blk w B cB 27 ∧
  ((zs = [] ∧ Blk w O #[.slice none 0 0, .slice none 0 0] 32 ∧ Blk w F #[.bool false] 4) ∨ (∃ z r, zs = z :: r ∧ ∃ s1 s2 lo m, Blk w O #[s1, s2] 32 ∧ Blk w F #[.bool true] 4 ∧ B0 ≤ lo ∧ OwnR w lo m s1 z ∧ OwnR w m w.heap.size s2 (cpS x y z) ∧ lo ≤ m ∧ m ≤ w.heap.size))
set_option maxRecDepth 100000 in
set_option maxHeartbeats 4000000 in
theorem implCmpNl_any (x y : Nl) (v u : Value) (w : World) (h : NlV w v x) (h' : NlV w u y) (hok : ∀ p ∈ x.ps, p.ok) (hfx : Fits x.nets) (hok' : ∀ p ∈ y.ps, p.ok) (hfy : Fits y.nets) :
    Calls Tryz.prog 6 #[v, u] w fun e w' => ∃ v', e = .returned (.tuple #[v', .int .i64 (cmpC x y)]) ∧ OwnPr w' w.heap.size w'.heap.size v' (cmpR x y) ∧ Below w.heap.size w w' := by
  have HV := Lib.hid h
  have HU := Lib.hid h'
  have HVX := Lib.hid (fun v w h => implNl_any x v w h hok hfx)
  have HVY := Lib.hid (fun v w h => implNl_any y v w h hok' hfy)
  have HSX := Lib.hid (fun v w h => tooGreat_any x v w h)
  have HSY := Lib.hid (fun v w h => tooGreat_any y v w h)
  obtain ⟨a1, c1, a2, c2, rfl⟩ := h.sized
  obtain ⟨b1, d1, b2, d2, rfl⟩ := h'.sized
  obtain ⟨C, hC⟩ : ∃ C, cmpC x y = C := ⟨_, rfl⟩
  obtain ⟨R, hR⟩ : ∃ R, cmpR x y = R := ⟨_, rfl⟩
  rw [hC, hR]
  have HC := Lib.hid hC
  have HR := Lib.hid hR
  obtain ⟨nx, hnx⟩ : ∃ N, x.nets = N := ⟨_, rfl⟩
  obtain ⟨ny, hny⟩ : ∃ N, y.nets = N := ⟨_, rfl⟩
  obtain ⟨n, hn⟩ : ∃ N, x.ds.length = N := ⟨_, rfl⟩
  obtain ⟨n2, hn2⟩ : ∃ N, y.ds.length = N := ⟨_, rfl⟩
  obtain ⟨p, hp⟩ : ∃ N, x.ps.length = N := ⟨_, rfl⟩
  obtain ⟨p2, hp2⟩ : ∃ N, y.ps.length = N := ⟨_, rfl⟩
  rw [hnx, hn, hp] at HV ⊢
  rw [hny, hn2, hp2] at HU ⊢
  have kA1 : Blk (((w.alloc (.cells #[.int .i64 nx, .slice a1 n c1, .slice a2 p c2] 27)).alloc (.cells #[.int .i64 ny, .slice b1 n2 d1, .slice b2 p2 d2] 27)).alloc (.cells #[.slice none 0 0, .slice none 0 0] 32)) w.heap.size #[.int .i64 nx, .slice a1 n c1, .slice a2 p c2] 27 := ((Blk.new _ rfl).past _).past _
  have kB1 : Blk (((w.alloc (.cells #[.int .i64 nx, .slice a1 n c1, .slice a2 p c2] 27)).alloc (.cells #[.int .i64 ny, .slice b1 n2 d1, .slice b2 p2 d2] 27)).alloc (.cells #[.slice none 0 0, .slice none 0 0] 32)) (w.heap.size + 1) #[.int .i64 ny, .slice b1 n2 d1, .slice b2 p2 d2] 27 := (Blk.new _ (by simp)).past _
  have kM1 : Blk (((w.alloc (.cells #[.int .i64 nx, .slice a1 n c1, .slice a2 p c2] 27)).alloc (.cells #[.int .i64 ny, .slice b1 n2 d1, .slice b2 p2 d2] 27)).alloc (.cells #[.slice none 0 0, .slice none 0 0] 32)) (w.heap.size + 2) #[.slice none 0 0, .slice none 0 0] 32 := Blk.new _ (by simp)
  have hb1w : Below w.heap.size w (((w.alloc (.cells #[.int .i64 nx, .slice a1 n c1, .slice a2 p c2] 27)).alloc (.cells #[.int .i64 ny, .slice b1 n2 d1, .slice b2 p2 d2] 27)).alloc (.cells #[.slice none 0 0, .slice none 0 0] 32)) := (((Below.refl _ w).alloc (Nat.le_refl _) _).alloc (by simp) _).alloc (by simp; omega) _
  clear h h' hok hok' hfx hfy hnx hny hn hn2 hp hp2 hC hR
  have qA := kA1.cell
  have qB := kB1.cell
  have lA := kA1.lt
  have lB := kB1.lt
  go_enter Tryz.func6, Tryz.ntmps6
  go_wp2_with fail
  generalize (((w.alloc (.cells #[.int .i64 nx, .slice a1 n c1, .slice a2 p c2] 27)).alloc (.cells #[.int .i64 ny, .slice b1 n2 d1, .slice b2 p2 d2] 27)).alloc (.cells #[.slice none 0 0, .slice none 0 0] 32)) = w1 at *
  refine (HVX.out _ _ (HV.out.by hb1w)).mono ?_
  rintro e w2 ⟨rfl, hb2⟩
  have kA2 := Blk.by hb2 kA1
  have kB2 := Blk.by hb2 kB1
  have kM2 := Blk.by hb2 kM1
  have hb2w := below_on hb2 hb1w
  clear hb2 kA1 kB1 kM1 hb1w qA qB lA lB
  have qA := kA2.cell
  have qB := kB2.cell
  have lA := kA2.lt
  have lB := kB2.lt
  cases hx : nlB x with
  | false =>
    obtain ⟨rfl, rfl⟩ : C = 1 ∧ R = ([], []) := by
      have h := cmp_inv (x := x) (y := y) (by rw [hx]; rfl)
      exact ⟨HC.out.symm.trans h.1, HR.out.symm.trans h.2⟩
    have qM := kM2.cell
    have fM := kM2.free
    have lM := kM2.lt
    go_wp2
    exact bodyPost_ret (v := .tuple #[.agg #[.slice none 0 0, .slice none 0 0], .int .i64 1]) (by simp [results, Tryz.results6, go_sem, *]) rfl ⟨_, rfl, own_below ((hb2w.setCell (show w.heap.size ≤ w.heap.size + 2 by omega) _).setCell (show w.heap.size ≤ w.heap.size + 2 by omega) _)⟩
  | true =>
    have HXB := Lib.hid hx
    clear hx
    go_wp2_with fail
    refine (HVY.out _ _ (HU.out.by hb2w)).mono ?_
    rintro e w3 ⟨rfl, hb3⟩
    have kA3 := Blk.by hb3 kA2
    have kB3 := Blk.by hb3 kB2
    have kM3 := Blk.by hb3 kM2
    have hb3w := below_on hb3 hb2w
    clear hb3 kA2 kB2 kM2 hb2w qA qB lA lB
    have qA := kA3.cell
    have qB := kB3.cell
    have lA := kA3.lt
    have lB := kB3.lt
    cases hy : nlB y with
    | false =>
      obtain ⟨rfl, rfl⟩ : C = 1 ∧ R = ([], []) := by
        have h := cmp_inv (x := x) (y := y) (by rw [hy, Bool.and_false])
        exact ⟨HC.out.symm.trans h.1, HR.out.symm.trans h.2⟩
      have qM := kM3.cell
      have fM := kM3.free
      have lM := kM3.lt
      go_wp2
      exact bodyPost_ret (v := .tuple #[.agg #[.slice none 0 0, .slice none 0 0], .int .i64 1]) (by simp [results, Tryz.results6, go_sem, *]) rfl ⟨_, rfl, own_below ((hb3w.setCell (show w.heap.size ≤ w.heap.size + 2 by omega) _).setCell (show w.heap.size ≤ w.heap.size + 2 by omega) _)⟩
    | true =>
      have HYB := Lib.hid hy
      clear hy
      have HVV := Lib.hid (show (nlB x && nlB y) = true from by rw [HXB.out, HYB.out]; rfl)
      go_wp2_with fail
      refine (HSX.out _ _ (HV.out.by hb3w)).mono ?_
      rintro e w4 ⟨rfl, hb4⟩
      have kA4 := Blk.by hb4 kA3
      have kB4 := Blk.by hb4 kB3
      have kM4 := Blk.by hb4 kM3
      have hb4w := below_on hb4 hb3w
      clear hb4 kA3 kB3 kM3 hb3w qA qB lA lB
      have qA := kA4.cell
      have qB := kB4.cell
      have lA := kA4.lt
      have lB := kB4.lt
      cases hx : smlB x with
      | false =>
        obtain ⟨rfl, rfl⟩ : C = 3 ∧ R = ([], []) := by
          have h := cmp_big (x := x) (y := y) HVV.out (by rw [hx]; rfl)
          exact ⟨HC.out.symm.trans h.1, HR.out.symm.trans h.2⟩
        have qM := kM4.cell
        have fM := kM4.free
        have lM := kM4.lt
        go_wp2
        exact bodyPost_ret (v := .tuple #[.agg #[.slice none 0 0, .slice none 0 0], .int .i64 3]) (by simp [results, Tryz.results6, go_sem, *]) rfl ⟨_, rfl, own_below ((hb4w.setCell (show w.heap.size ≤ w.heap.size + 2 by omega) _).setCell (show w.heap.size ≤ w.heap.size + 2 by omega) _)⟩
      | true =>
        have HXS := Lib.hid hx
        clear hx
        go_wp2_with fail
        refine (HSY.out _ _ (HU.out.by hb4w)).mono ?_
        rintro e w5 ⟨rfl, hb5⟩
        have kA5 := Blk.by hb5 kA4
        have kB5 := Blk.by hb5 kB4
        have kM5 := Blk.by hb5 kM4
        have hb5w := below_on hb5 hb4w
        clear hb5 kA4 kB4 kM4 hb4w qA qB lA lB
        have qA := kA5.cell
        have qB := kB5.cell
        have lA := kA5.lt
        have lB := kB5.lt
        cases hy : smlB y with
        | false =>
          obtain ⟨rfl, rfl⟩ : C = 3 ∧ R = ([], []) := by
            have h := cmp_big (x := x) (y := y) HVV.out (by rw [hy, Bool.and_false])
            exact ⟨HC.out.symm.trans h.1, HR.out.symm.trans h.2⟩
          have qM := kM5.cell
          have fM := kM5.free
          have lM := kM5.lt
          go_wp2
          exact bodyPost_ret (v := .tuple #[.agg #[.slice none 0 0, .slice none 0 0], .int .i64 3]) (by simp [results, Tryz.results6, go_sem, *]) rfl ⟨_, rfl, own_below ((hb5w.setCell (show w.heap.size ≤ w.heap.size + 2 by omega) _).setCell (show w.heap.size ≤ w.heap.size + 2 by omega) _)⟩
        | true =>
          have HSS := Lib.hid (show (smlB x && smlB y) = true from by rw [HXS.out, hy]; rfl)
          have HYS := Lib.hid hy
          clear hy
          go_wp2_with fail
          obtain ⟨O, hO⟩ : ∃ O, w5.heap.size = O := ⟨_, rfl⟩
          have hal : Below w5.heap.size w5 ((w5.alloc (.cells #[.slice none 0 0, .slice none 0 0] 32)).alloc (.cells #[.bool false] 4)) := ((Below.refl _ w5).alloc (Nat.le_refl _) _).alloc (by simp) _
          have kO6 : Blk ((w5.alloc (.cells #[.slice none 0 0, .slice none 0 0] 32)).alloc (.cells #[.bool false] 4)) O #[.slice none 0 0, .slice none 0 0] 32 := (Blk.new _ hO.symm).past _
          have kF6 : Blk ((w5.alloc (.cells #[.slice none 0 0, .slice none 0 0] 32)).alloc (.cells #[.bool false] 4)) (O + 1) #[.bool false] 4 := Blk.new _ (by simp [hO])
          have hs6 : ((w5.alloc (.cells #[.slice none 0 0, .slice none 0 0] 32)).alloc (.cells #[.bool false] 4)).heap.size = O + 2 := by simp [hO]
          have hs6a : O + 2 ≤ ((w5.alloc (.cells #[.slice none 0 0, .slice none 0 0] 32)).alloc (.cells #[.bool false] 4)).heap.size := Nat.le_of_eq hs6.symm
          have hs6b : ((w5.alloc (.cells #[.slice none 0 0, .slice none 0 0] 32)).alloc (.cells #[.bool false] 4)).heap.size ≤ O + 2 := Nat.le_of_eq hs6
          have kA6 := Blk.by hal kA5
          have kB6 := Blk.by hal kB5
          have kM6 := Blk.by hal kM5
          have hb6w := below_on hal hb5w
          have hs5w := hb5w.size
          have hlM := kM5.lt
          have hO1 : w5.heap.size ≤ O := Nat.le_of_eq hO
          have hO2 : O ≤ w5.heap.size := Nat.le_of_eq hO.symm
          rw [hO]
          clear hal hs6 kA5 kB5 kM5 hb5w qA qB lA lB hO
          generalize (w5.alloc (.cells #[.slice none 0 0, .slice none 0 0] 32)).alloc (.cells #[.bool false] 4) = w6 at *
          have HYC : Hid (YldC x y true (.agg #[.int .i64 nx, .slice a1 n c1, .slice a2 p c2]) (.agg #[.int .i64 ny, .slice b1 n2 d1, .slice b2 p2 d2]) 15 #[.pointer (some ⟨w.heap.size, 0, none⟩), .pointer (some ⟨w.heap.size + 1, 0, none⟩), .pointer (some ⟨O, 0, none⟩), .pointer (some ⟨O + 1, 0, none⟩)] (fun b => b = O ∨ b = O + 1) (CmpYd w.heap.size (w.heap.size + 1) O (O + 1) w6.heap.size #[.int .i64 nx, .slice a1 n c1, .slice a2 p c2] #[.int .i64 ny, .slice b1 n2 d1, .slice b2 p2 d2] x y) w6) := Lib.hid {
            hV := fun w1 h1 => HV.out.by (h1.below hb6w (fun k hk h => by rcases h with h | h <;> omega))
            hU := fun w1 h1 => HU.out.by (h1.below hb6w (fun k hk h => by rcases h with h | h <;> omega))
            hYl := fun b h => by rcases h with h | h <;> omega
            eg := enters_of Tryz.func15 (by kernel_rfl) rfl
            hY := fun hpre zs z sv w1 h1 h2 h3 h4 h5 h6 h7 => by
              obtain ⟨f1, f2, f3, f4⟩ := pre_facts hpre
              have hI := iso_of HXB.out HYB.out f1 f2 f3 f4 h5 h6 h7
              obtain ⟨g1, g2, g3⟩ := h1
              rcases g3 with ⟨g3, g4, g5⟩ | ⟨z', r, g3, _⟩
              · have hbw := h3.below hb6w (fun k hk h => by rcases h with h | h <;> omega)
                have hs1 := h3.size
                have hz10 : x.nets ≤ 10 := by
                  have := HXS.out
                  unfold smlB at this
                  simp at this
                  exact this.1
                show Calls Tryz.prog 15 #[sv, .pointer (some ⟨w.heap.size, 0, none⟩), .pointer (some ⟨w.heap.size + 1, 0, none⟩), .pointer (some ⟨O, 0, none⟩), .pointer (some ⟨O + 1, 0, none⟩)] w1 _
                refine (cmp1_any x y z w.heap.size (w.heap.size + 1) O (O + 1) nx ny a1 a2 b1 b2 c1 c2 d1 d2 n p n2 p2 sv w1 g1 g2 g4 g5 (by omega) (by omega) (by omega) (by omega) (by omega) (HV.out.by hbw) (HU.out.by hbw) h4 (by omega) HXB.out HYB.out f2 (by omega) (NlIso.perm hI HXB.out HYB.out)).mono ?_
                rintro e w9 ⟨rfl, ⟨s1, s2, m, q1, q2, q3, q4, q5, q6⟩, q7, q8, q9⟩
                refine ⟨rfl, ⟨q7, q8, .inr ⟨z, [], by rw [g3]; rfl, s1, s2, w1.heap.size, m, q1, q2, hs1, q3, q4, q5, q6⟩⟩, q9⟩
              · have := h2 rfl
                rw [this] at g3
                cases g3
            hYs := fun zs w1 w2 h1 h2 h3 => by
              obtain ⟨g1, g2, g3⟩ := h1
              rcases g3 with ⟨g3, g4, g5⟩ | ⟨z', r, g3, _⟩
              · exact ⟨h3.blk g1 (by omega), h3.blk g2 (by omega), .inl ⟨g3, h3.blk g4 (by omega), h3.blk g5 (by omega)⟩⟩
              · have := h2 rfl
                rw [this] at g3
                cases g3
            h0 := ⟨kA6, kB6, .inl ⟨rfl, kO6, kF6⟩⟩ }
          have HXL := Lib.hid (show x.ds.length ≤ 10 from by
            have := HXS.out
            unfold smlB at this
            simp at this
            exact this.2)
          have HYL := Lib.hid (show y.ds.length ≤ 10 from by
            have := HYS.out
            unfold smlB at this
            simp at this
            exact this.2)
          refine (isomorphisms_any x y true _ _ _ _ _ _ w6 HXB.out HYB.out HXL.out HYL.out HYC.out).mono ?_
          rintro e w7 ⟨rfl, hY7, hE7⟩
          have hok := cmp_ok HVV.out HSS.out
          rw [HC.out, HR.out] at hok
          obtain ⟨hok1, hok2⟩ := hok
          have HCF := Lib.hid (show cmpF x y = (ismS x y true).head? from by
            rw [cmpF_pre HXB.out HYB.out]
            unfold ismS
            split <;> rfl)
          have kM7 := hE7.blk kM6 (show ¬ (w.heap.size + 2 = O ∨ w.heap.size + 2 = O + 1) by omega)
          have hb7w : Below w.heap.size w w7 := hE7.below hb6w (fun k hk h => by rcases h with h | h <;> omega)
          have hs7 := hE7.size
          have HK1 := Lib.hid hok1
          have HK2 := Lib.hid hok2
          have qM := kM7.cell
          have fM := kM7.free
          have lM := kM7.lt
          clear hok1 hok2 HYC hE7 kM6 kO6 kF6 kA6 kB6
          obtain ⟨_, _, hY7⟩ := hY7
          rcases hY7 with ⟨hz, kO7, kF7⟩ | ⟨z, r, hz, s1, s2, lo, m, kO7, kF7, hlo, hO1, hO2, hlm, hms⟩
          · rw [hz] at HCF
            have cF := kF7.cell
            have lF := kF7.lt
            obtain rfl : C = 5 := by rw [HK1.out, HCF.out]; rfl
            obtain rfl : R = ([], []) := by rw [HK2.out]; unfold fstR; rw [HCF.out]; rfl
            clear hz kO7
            go_wp2
            exact bodyPost_ret (v := .tuple #[.agg #[.slice none 0 0, .slice none 0 0], .int .i64 5]) (by simp [results, Tryz.results6, go_sem, *]) rfl ⟨_, rfl, ownPr_nil0 _ _ _ (by simp; omega), (hb7w.setCell (show w.heap.size ≤ w.heap.size + 2 by omega) _).setCell (show w.heap.size ≤ w.heap.size + 2 by omega) _⟩
          · rw [hz] at HCF
            have cF := kF7.cell
            have lF := kF7.lt
            obtain rfl : C = 0 := by rw [HK1.out, HCF.out]; rfl
            obtain rfl : R = (z, cpS x y z) := by rw [HK2.out]; unfold fstR; rw [HCF.out]; rfl
            obtain ⟨e1, f1, rfl⟩ := hO1.sl.len
            obtain ⟨e2, f2, rfl⟩ := hO2.sl.len
            have HO1 := Lib.hid hO1
            have HO2 := Lib.hid hO2
            obtain ⟨q1, hq1⟩ : ∃ q, z.length = q := ⟨_, rfl⟩
            obtain ⟨q2, hq2⟩ : ∃ q, (cpS x y z).length = q := ⟨_, rfl⟩
            rw [hq1] at HO1 kO7
            rw [hq2] at HO2 kO7
            have qO := kO7.cell
            have lO := kO7.lt
            have HF1 := Lib.hid (show OwnPr ((w7.setCell ⟨w.heap.size + 2, 0, none⟩ (.slice e1 q1 f1)).setCell ⟨w.heap.size + 2, 1, none⟩ (.slice e2 q2 f2)) w.heap.size ((w7.setCell ⟨w.heap.size + 2, 0, none⟩ (.slice e1 q1 f1)).setCell ⟨w.heap.size + 2, 1, none⟩ (.slice e2 q2 f2)).heap.size (.agg #[.slice e1 q1 f1, .slice e2 q2 f2]) (z, cpS x y z) from
              ⟨_, _, lo, m, m, w7.heap.size, rfl, (HO1.out.past (Within.off _) (by omega)).past (Within.off _) (by omega), (HO2.out.past (Within.off _) (by omega)).past (Within.off _) (by omega), ⟨by omega, by simp; omega⟩, ⟨by omega, by simp⟩, .inl (Nat.le_refl _)⟩)
            clear hz hO1 hO2 hq1 hq2 HO1 HO2 HK1 HK2 HCF
            go_wp2
            exact bodyPost_ret (v := .tuple #[.agg #[.slice e1 q1 f1, .slice e2 q2 f2], .int .i64 0]) (by simp [results, Tryz.results6, go_sem, *]) rfl ⟨_, rfl, HF1.out, (hb7w.setCell (show w.heap.size ≤ w.heap.size + 2 by omega) _).setCell (show w.heap.size ≤ w.heap.size + 2 by omega) _⟩
theorem exp_inv {x y : Nl} (h : (nlB x && nlB y) = false) : expR x y = ((0, 0, 0), 1) := by
  unfold expR
  rw [if_neg (by rw [h]; simp)]
theorem exp_x {x y : Nl} (h : (nlB x && nlB y) = true) (h1 : (xplR x y).1 ≠ 0) : expR x y = (xplR x y, 0) := by
  unfold expR
  rw [if_pos h]
  by_cases e1 : x.nets = y.nets
  · rw [if_pos e1]
    by_cases e2 : x.ds.length = y.ds.length
    · rw [if_pos e2]
      by_cases e3 : namD x.ps y.ps = -1
      · rw [if_pos e3]
        by_cases e4 : sizD x.ds y.ds = -1
        · rw [if_pos e4]
          by_cases e5 : colD (refNet x).1.1 (refNet y).1.1 = -1
          · rw [if_pos e5]
            by_cases e6 : colD (refNet x).1.2 (refNet y).1.2 = -1
            · rw [xpl_7 e1 e2 e3 e4 e5 e6] at h1
              exact absurd rfl h1
            · rw [if_neg e6, xpl_6 e1 e2 e3 e4 e5 e6]
          · rw [if_neg e5, xpl_5 e1 e2 e3 e4 e5]
        · rw [if_neg e4, xpl_4 e1 e2 e3 e4]
      · rw [if_neg e3, xpl_3 e1 e2 e3]
    · rw [if_neg e2, xpl_2 e1 e2]
  · rw [if_neg e1, xpl_1 e1]
theorem exp_z {x y : Nl} (h : (nlB x && nlB y) = true) (h1 : (xplR x y).1 = 0) : expR x y = ((if (smlB x && smlB y) = true then (match cmpF x y with | some _ => ((0, 0, 0), 0) | none => ((7, 0, 0), 0)) else ((0, 0, 0), 3)) : (Int × Int × Int) × Int) := by
  unfold expR
  rw [if_pos h]
  by_cases e1 : x.nets = y.nets
  · rw [if_pos e1]
    by_cases e2 : x.ds.length = y.ds.length
    · rw [if_pos e2]
      by_cases e3 : namD x.ps y.ps = -1
      · rw [if_pos e3]
        by_cases e4 : sizD x.ds y.ds = -1
        · rw [if_pos e4]
          by_cases e5 : colD (refNet x).1.1 (refNet y).1.1 = -1
          · rw [if_pos e5]
            by_cases e6 : colD (refNet x).1.2 (refNet y).1.2 = -1
            · rw [if_pos e6]
              by_cases e : (smlB x && smlB y) = true
              · rw [if_pos e, if_pos e]
                cases cmpF x y <;> rfl
              · rw [if_neg e, if_neg e]
            · rw [xpl_6 e1 e2 e3 e4 e5 e6] at h1
              simp at h1
          · rw [xpl_5 e1 e2 e3 e4 e5] at h1
            simp at h1
        · rw [xpl_4 e1 e2 e3 e4] at h1
          simp at h1
      · rw [xpl_3 e1 e2 e3] at h1
        simp at h1
    · rw [xpl_2 e1 e2] at h1
      simp at h1
  · rw [xpl_1 e1] at h1
    simp at h1
theorem intSl_sized {w : World} {s : Value} {zs : List Int} (h : IntSl w s zs) : ∃ a c, s = .slice a zs.length c := by
  rcases h with ⟨a, c, rfl, rfl⟩ | ⟨b, o, c, rfl, _⟩
  · exact ⟨_, _, rfl⟩
  · exact ⟨_, _, rfl⟩
theorem exp_c {x y : Nl} (h : (nlB x && nlB y) = true) (h1 : (xplR x y).1 = 0) : (cmpC x y = 0 ∧ expR x y = ((0, 0, 0), 0)) ∨ (cmpC x y = 3 ∧ expR x y = ((0, 0, 0), 3)) ∨ (cmpC x y = 5 ∧ expR x y = ((7, 0, 0), 0)) := by
  rw [exp_z h h1]
  unfold cmpC
  rw [if_pos h]
  by_cases e : (smlB x && smlB y) = true
  · rw [if_pos e, if_pos e]
    cases cmpF x y with
    | some z => exact .inl ⟨rfl, rfl⟩
    | none => exact .inr (.inr ⟨rfl, rfl⟩)
  · rw [if_neg e, if_neg e]
    exact .inr (.inl ⟨rfl, rfl⟩)
set_option maxRecDepth 100000 in
set_option maxHeartbeats 4000000 in
theorem implExp_any (x y : Nl) (v u : Value) (w : World) (h : NlV w v x) (h' : NlV w u y) (hok : ∀ p ∈ x.ps, p.ok) (hfx : Fits x.nets) (hok' : ∀ p ∈ y.ps, p.ok) (hfy : Fits y.nets) :
    Calls Tryz.prog 7 #[v, u] w fun e w' => e = .returned (.tuple #[.agg #[.int .i64 (expR x y).1.1, .int .i64 (expR x y).1.2.1, .int .i64 (expR x y).1.2.2], .int .i64 (expR x y).2]) ∧ Below w.heap.size w w' := by
  have HV := Lib.hid h
  have HU := Lib.hid h'
  have HVX := Lib.hid (fun v w h => implNl_any x v w h hok hfx)
  have HVY := Lib.hid (fun v w h => implNl_any y v w h hok' hfy)
  have HXP := Lib.hid (fun hx hy v u w h h' => explained_any x y v u w h h' hx hy)
  have HCM := Lib.hid (fun v u w h h' => implCmpNl_any x y v u w h h' hok hfx hok' hfy)
  obtain ⟨a1, c1, a2, c2, rfl⟩ := h.sized
  obtain ⟨b1, d1, b2, d2, rfl⟩ := h'.sized
  obtain ⟨⟨⟨EK, EP, EQ⟩, EC⟩, hE⟩ : ∃ E, expR x y = E := ⟨_, rfl⟩
  rw [hE]
  have HE := Lib.hid hE
  obtain ⟨nx, hnx⟩ : ∃ N, x.nets = N := ⟨_, rfl⟩
  obtain ⟨ny, hny⟩ : ∃ N, y.nets = N := ⟨_, rfl⟩
  obtain ⟨n, hn⟩ : ∃ N, x.ds.length = N := ⟨_, rfl⟩
  obtain ⟨n2, hn2⟩ : ∃ N, y.ds.length = N := ⟨_, rfl⟩
  obtain ⟨p, hp⟩ : ∃ N, x.ps.length = N := ⟨_, rfl⟩
  obtain ⟨p2, hp2⟩ : ∃ N, y.ps.length = N := ⟨_, rfl⟩
  rw [hnx, hn, hp] at HV ⊢
  rw [hny, hn2, hp2] at HU ⊢
  have kA1 : Blk (((w.alloc (.cells #[.int .i64 nx, .slice a1 n c1, .slice a2 p c2] 27)).alloc (.cells #[.int .i64 ny, .slice b1 n2 d1, .slice b2 p2 d2] 27)).alloc (.cells #[.int .i64 0, .int .i64 0, .int .i64 0] 36)) w.heap.size #[.int .i64 nx, .slice a1 n c1, .slice a2 p c2] 27 := ((Blk.new _ rfl).past _).past _
  have kB1 : Blk (((w.alloc (.cells #[.int .i64 nx, .slice a1 n c1, .slice a2 p c2] 27)).alloc (.cells #[.int .i64 ny, .slice b1 n2 d1, .slice b2 p2 d2] 27)).alloc (.cells #[.int .i64 0, .int .i64 0, .int .i64 0] 36)) (w.heap.size + 1) #[.int .i64 ny, .slice b1 n2 d1, .slice b2 p2 d2] 27 := (Blk.new _ (by simp)).past _
  have kR1 : Blk (((w.alloc (.cells #[.int .i64 nx, .slice a1 n c1, .slice a2 p c2] 27)).alloc (.cells #[.int .i64 ny, .slice b1 n2 d1, .slice b2 p2 d2] 27)).alloc (.cells #[.int .i64 0, .int .i64 0, .int .i64 0] 36)) (w.heap.size + 2) #[.int .i64 0, .int .i64 0, .int .i64 0] 36 := Blk.new _ (by simp)
  have hb1w : Below w.heap.size w (((w.alloc (.cells #[.int .i64 nx, .slice a1 n c1, .slice a2 p c2] 27)).alloc (.cells #[.int .i64 ny, .slice b1 n2 d1, .slice b2 p2 d2] 27)).alloc (.cells #[.int .i64 0, .int .i64 0, .int .i64 0] 36)) := (((Below.refl _ w).alloc (Nat.le_refl _) _).alloc (by simp) _).alloc (by simp; omega) _
  clear h h' hok hok' hfx hfy hnx hny hn hn2 hp hp2 hE
  have qA := kA1.cell
  have qB := kB1.cell
  have lA := kA1.lt
  have lB := kB1.lt
  go_enter Tryz.func7, Tryz.ntmps7
  go_wp2_with fail
  generalize (((w.alloc (.cells #[.int .i64 nx, .slice a1 n c1, .slice a2 p c2] 27)).alloc (.cells #[.int .i64 ny, .slice b1 n2 d1, .slice b2 p2 d2] 27)).alloc (.cells #[.int .i64 0, .int .i64 0, .int .i64 0] 36)) = w1 at *
  refine (HVX.out _ _ (HV.out.by hb1w)).mono ?_
  rintro e w2 ⟨rfl, hb2⟩
  have kA2 := Blk.by hb2 kA1
  have kB2 := Blk.by hb2 kB1
  have kR2 := Blk.by hb2 kR1
  have hb2w := below_on hb2 hb1w
  clear hb2 kA1 kB1 kR1 hb1w qA qB lA lB
  have qA := kA2.cell
  have qB := kB2.cell
  have lA := kA2.lt
  have lB := kB2.lt
  cases hx : nlB x with
  | false =>
    obtain ⟨rfl, rfl, rfl, rfl⟩ : (0 : Int) = EK ∧ (0 : Int) = EP ∧ (0 : Int) = EQ ∧ (1 : Int) = EC := by
      have h := (exp_inv (x := x) (y := y) (by rw [hx]; rfl)).symm.trans HE.out
      simp only [Prod.mk.injEq] at h
      exact ⟨h.1.1, h.1.2.1, h.1.2.2, h.2⟩
    have qR := kR2.cell
    have fR := kR2.free
    have lR := kR2.lt
    go_wp2
    exact bodyPost_ret (v := .tuple #[.agg #[.int .i64 (0), .int .i64 (0), .int .i64 (0)], .int .i64 1]) (by simp [results, Tryz.results7, go_sem, *]) rfl ⟨rfl, ((hb2w.setCell (show w.heap.size ≤ w.heap.size + 2 by omega) _).setCell (show w.heap.size ≤ w.heap.size + 2 by omega) _).setCell (show w.heap.size ≤ w.heap.size + 2 by omega) _⟩
  | true =>
    have HXB := Lib.hid hx
    clear hx
    go_wp2_with fail
    refine (HVY.out _ _ (HU.out.by hb2w)).mono ?_
    rintro e w3 ⟨rfl, hb3⟩
    have kA3 := Blk.by hb3 kA2
    have kB3 := Blk.by hb3 kB2
    have kR3 := Blk.by hb3 kR2
    have hb3w := below_on hb3 hb2w
    clear hb3 kA2 kB2 kR2 hb2w qA qB lA lB
    have qA := kA3.cell
    have qB := kB3.cell
    have lA := kA3.lt
    have lB := kB3.lt
    cases hy : nlB y with
    | false =>
      obtain ⟨rfl, rfl, rfl, rfl⟩ : (0 : Int) = EK ∧ (0 : Int) = EP ∧ (0 : Int) = EQ ∧ (1 : Int) = EC := by
        have h := (exp_inv (x := x) (y := y) (by rw [hy]; cases nlB x <;> rfl)).symm.trans HE.out
        simp only [Prod.mk.injEq] at h
        exact ⟨h.1.1, h.1.2.1, h.1.2.2, h.2⟩
      have qR := kR3.cell
      have fR := kR3.free
      have lR := kR3.lt
      go_wp2
      exact bodyPost_ret (v := .tuple #[.agg #[.int .i64 (0), .int .i64 (0), .int .i64 (0)], .int .i64 1]) (by simp [results, Tryz.results7, go_sem, *]) rfl ⟨rfl, ((hb3w.setCell (show w.heap.size ≤ w.heap.size + 2 by omega) _).setCell (show w.heap.size ≤ w.heap.size + 2 by omega) _).setCell (show w.heap.size ≤ w.heap.size + 2 by omega) _⟩
    | true =>
      have HYB := Lib.hid hy
      have HB := Lib.hid (show (nlB x && nlB y) = true by rw [HXB.out, hy]; rfl)
      clear hy
      go_wp2_with fail
      refine (HXP.out HXB.out HYB.out _ _ w3 (HV.out.by hb3w) (HU.out.by hb3w)).mono ?_
      rintro e w4 ⟨rfl, hb4⟩
      obtain ⟨⟨K, L, R⟩, hX⟩ : ∃ X, xplR x y = X := ⟨_, rfl⟩
      rw [hX]
      dsimp only
      have HX := Lib.hid hX
      have kA4 := Blk.by hb4 kA3
      have kB4 := Blk.by hb4 kB3
      have kR4 := Blk.by hb4 kR3
      have hb4w := below_on hb4 hb3w
      clear hX hb4 kA3 kB3 kR3 hb3w qA qB lA lB
      have hal : Below w4.heap.size w4 (w4.alloc (.cells #[.int .i64 K, .int .i64 L, .int .i64 R] 36)) := (Below.refl _ w4).alloc (Nat.le_refl _) _
      have kX5 : Blk (w4.alloc (.cells #[.int .i64 K, .int .i64 L, .int .i64 R] 36)) w4.heap.size #[.int .i64 K, .int .i64 L, .int .i64 R] 36 := Blk.new _ rfl
      have kA5 := Blk.by hal kA4
      have kB5 := Blk.by hal kB4
      have kR5 := Blk.by hal kR4
      have hb5w := below_on hal hb4w
      clear hal kA4 kB4 kR4
      by_cases hK : K = 0
      · subst hK
        have k0 : ((0 : Int) != 0) = false := by decide
        have qA := kA5.cell
        have qB := kB5.cell
        have lA := kA5.lt
        have lB := kB5.lt
        have hab := hb4w.size
        clear hb4w
        go_wp2_with fail
        generalize w4.alloc (.cells #[.int .i64 0, .int .i64 L, .int .i64 R] 36) = w5 at *
        refine (HCM.out _ _ w5 (HV.out.by hb5w) (HU.out.by hb5w)).mono ?_
        rintro e w6 ⟨mv, rfl, hO, hb6⟩
        obtain ⟨s1, s2, _, _, _, _, rfl, hk1, hk2, _⟩ := hO
        obtain ⟨g1, g2, rfl⟩ := intSl_sized hk1.sl
        obtain ⟨g3, g4, rfl⟩ := intSl_sized hk2.sl
        generalize (cmpR x y).1.length = l1
        generalize (cmpR x y).2.length = l2
        clear hk1 hk2
        have kR6 := Blk.by hb6 kR5
        have hb6w := below_on hb6 hb5w
        have hall : Below w6.heap.size w6 (w6.alloc (.cells #[.slice g1 l1 g2, .slice g3 l2 g4] 32)) := (Below.refl _ w6).alloc (Nat.le_refl _) _
        have kR7 := Blk.by hall kR6
        have hb7w := below_on hall hb6w
        clear hb6 kA5 kB5 kR5 hb5w qA qB lA lB kX5 hall kR6 hb6w
        rcases exp_c HB.out (show (xplR x y).1 = 0 by rw [HX.out]) with ⟨hc, he⟩ | ⟨hc, he⟩ | ⟨hc, he⟩
        · rw [hc]
          have HEE := Lib.hid he
          clear hc he
          obtain ⟨rfl, rfl, rfl, rfl⟩ : (0 : Int) = EK ∧ (0 : Int) = EP ∧ (0 : Int) = EQ ∧ (0 : Int) = EC := by
            have h := (HEE.out).symm.trans HE.out
            simp only [Prod.mk.injEq] at h
            exact ⟨h.1.1, h.1.2.1, h.1.2.2, h.2⟩
          have qR := kR7.cell
          have fR := kR7.free
          have lR := kR7.lt
          go_wp2
          exact bodyPost_ret (v := .tuple #[.agg #[.int .i64 (0), .int .i64 (0), .int .i64 (0)], .int .i64 0]) (by simp [results, Tryz.results7, go_sem, *]) rfl ⟨rfl, ((hb7w.setCell (show w.heap.size ≤ w.heap.size + 2 by omega) _).setCell (show w.heap.size ≤ w.heap.size + 2 by omega) _).setCell (show w.heap.size ≤ w.heap.size + 2 by omega) _⟩
        · rw [hc]
          have HEE := Lib.hid he
          clear hc he
          obtain ⟨rfl, rfl, rfl, rfl⟩ : (0 : Int) = EK ∧ (0 : Int) = EP ∧ (0 : Int) = EQ ∧ (3 : Int) = EC := by
            have h := (HEE.out).symm.trans HE.out
            simp only [Prod.mk.injEq] at h
            exact ⟨h.1.1, h.1.2.1, h.1.2.2, h.2⟩
          have qR := kR7.cell
          have fR := kR7.free
          have lR := kR7.lt
          go_wp2
          exact bodyPost_ret (v := .tuple #[.agg #[.int .i64 (0), .int .i64 (0), .int .i64 (0)], .int .i64 3]) (by simp [results, Tryz.results7, go_sem, *]) rfl ⟨rfl, ((hb7w.setCell (show w.heap.size ≤ w.heap.size + 2 by omega) _).setCell (show w.heap.size ≤ w.heap.size + 2 by omega) _).setCell (show w.heap.size ≤ w.heap.size + 2 by omega) _⟩
        · rw [hc]
          have HEE := Lib.hid he
          clear hc he
          obtain ⟨rfl, rfl, rfl, rfl⟩ : (7 : Int) = EK ∧ (0 : Int) = EP ∧ (0 : Int) = EQ ∧ (0 : Int) = EC := by
            have h := (HEE.out).symm.trans HE.out
            simp only [Prod.mk.injEq] at h
            exact ⟨h.1.1, h.1.2.1, h.1.2.2, h.2⟩
          have qR := kR7.cell
          have fR := kR7.free
          have lR := kR7.lt
          go_wp2
          exact bodyPost_ret (v := .tuple #[.agg #[.int .i64 (7), .int .i64 (0), .int .i64 (0)], .int .i64 0]) (by simp [results, Tryz.results7, go_sem, *]) rfl ⟨rfl, ((hb7w.setCell (show w.heap.size ≤ w.heap.size + 2 by omega) _).setCell (show w.heap.size ≤ w.heap.size + 2 by omega) _).setCell (show w.heap.size ≤ w.heap.size + 2 by omega) _⟩
      · have k0 : (K != 0) = true := by simpa using hK
        have k1 : (K == 0) = false := by simpa using hK
        have HEE := Lib.hid ((exp_x HB.out (by rw [HX.out]; exact hK)).trans (by rw [HX.out]))
        obtain ⟨rfl, rfl, rfl, rfl⟩ : (K : Int) = EK ∧ (L : Int) = EP ∧ (R : Int) = EQ ∧ (0 : Int) = EC := by
          have h := (HEE.out).symm.trans HE.out
          simp only [Prod.mk.injEq] at h
          exact ⟨h.1.1, h.1.2.1, h.1.2.2, h.2⟩
        have qR := kR5.cell
        have fR := kR5.free
        have lR := kR5.lt
        go_wp2
        exact bodyPost_ret (v := .tuple #[.agg #[.int .i64 (K), .int .i64 (L), .int .i64 (R)], .int .i64 0]) (by simp [results, Tryz.results7, go_sem, *]) rfl ⟨rfl, ((hb5w.setCell (show w.heap.size ≤ w.heap.size + 2 by omega) _).setCell (show w.heap.size ≤ w.heap.size + 2 by omega) _).setCell (show w.heap.size ≤ w.heap.size + 2 by omega) _⟩
end Go.Proofs.YtehmiekendkjmaaGreat
