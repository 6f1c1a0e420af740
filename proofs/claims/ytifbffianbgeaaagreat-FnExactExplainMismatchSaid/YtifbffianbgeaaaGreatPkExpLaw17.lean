/- Contracts and plain laws, part 17, for the statement's proof. -/
import Derived.Test.YtifbffianbgeaaaGreatPkExpLaw16
import Derived.Deep.CutRange
namespace Go.Proofs.YtifbffianbgeaaaGreat
open Go.RowKit
set_option linter.unusedVariables false
set_option linter.unusedSimpArgs false
theorem step_pushIm {ops : Array Oper} {o : Oper} {a : Act} {w : World} {K : Act → World → Prop} {Q : Exit → Act → World → Prop} {E : Prop} (hgd : o.guard = none) (s x : Operand)
    (ho : o.op = .call { callee := .builtin .append, args := #[s, x], argTypes := #[27, 27] })
    (lo hi N : Nat) {v : Value} (zs ys : List Int) (hN : zs.length = N) (hs : a.eval s = v) (hB : BldI w lo hi v zs) (nb m : Nat) (cs : Array Value) (hx : a.eval x = .slice (some ⟨nb, 0, none⟩) m m) (hys : ys.length = m) (hm : 0 < m)
    (hnb : Blk w nb cs 2) (hcs : cs.toList = icells ys) (hlo : lo ≤ hi) (hn : N + m ≤ 8000000)
    (hK : ∀ a' c' w', BldI w' lo w'.heap.size (.slice a' (N + m) c') (zs ++ ys) → Within lo hi w w' → K (a.put o.dst (.slice a' (N + m) c')) w') :
    if Region.wanted o (yielded ops a.tmps) = true then Oper.wp Tryz.prog o a w K Q else E := by
  subst hN
  exact step_pushI hgd s x ho lo hi v zs ys hs hB nb m cs hx hys hm hnb hcs hlo hn hK
theorem srcB_one {x y : Nl} {col : Nat → Nat → Bool} {n r : Nat} {one : Bool} {nets : List Int} (h : one = true) : (srcB x y col n one r nets).length ≤ 1 := by
  unfold srcB
  split
  · exact srch_one h _ _
  · simp
theorem srcB_len {x y : Nl} {col : Nat → Nat → Bool} {n r : Nat} {one : Bool} {nets : List Int} : (srcB x y col n one r nets).length ≤ n ^ r := by
  unfold srcB
  split
  · exact srch_len _ _
  · simp
theorem sea_bound {x y : Nl} {col : Nat → Nat → Bool} {n r m : Nat} {one : Bool} {nets : List Int} (hb : one = true ∨ n ≤ 7) (hr : r + 1 ≤ n) (k : Nat) (hk : k ≤ n) :
    (srTo (fun k => if (col m k && !nets.contains (k : Int)) = true then srcB x y col n one r (nets ++ [(k : Int)]) else []) one k).length ≤ 900000 ∧
    ((fun k : Nat => if (col m k && !nets.contains (k : Int)) = true then srcB x y col n one r (nets ++ [(k : Int)]) else []) k).length ≤ 900000 := by
  rcases hb with h | h
  · have hg : ∀ k, ((fun k : Nat => if (col m k && !nets.contains (k : Int)) = true then srcB x y col n one r (nets ++ [(k : Int)]) else []) k).length ≤ 1 := fun k => by
      dsimp only
      split
      · exact srcB_one h
      · simp
    have := srTo_one (one := one) h hg k
    have := hg k
    exact ⟨by omega, by omega⟩
  · have hg : ∀ k, ((fun k : Nat => if (col m k && !nets.contains (k : Int)) = true then srcB x y col n one r (nets ++ [(k : Int)]) else []) k).length ≤ n ^ r := fun k => by
      dsimp only
      split
      · exact srcB_len
      · simp
    have h1 := srTo_len (one := one) hg k
    have h2 := hg k
    have h3 : n ^ r ≤ 7 ^ r := Nat.pow_le_pow_left h r
    have h4 : 7 ^ r ≤ 7 ^ 6 := Nat.pow_le_pow_right (by omega) (by omega)
    have h5 : k * n ^ r ≤ 7 * 7 ^ 6 := Nat.mul_le_mul (by omega) (by omega)
    have e6 : (7 : Nat) ^ 6 = 117649 := by decide
    rw [e6] at h4 h5
    exact ⟨by omega, by omega⟩
theorem contains_step {zs : List Int} {i : Nat} {z : Int} (h : zs[i]? = some z) (k : Int) : (zs.take (i + 1)).contains k = ((zs.take i).contains k || (z == k)) := by
  rw [take_snoc_of zs i z h]
  by_cases h1 : k ∈ zs.take i
  · have a1 : (zs.take i).contains k = true := by simpa using h1
    have a2 : (zs.take i ++ [z]).contains k = true := by
      rw [List.contains_eq_mem]
      exact decide_eq_true (List.mem_append.2 (.inl h1))
    rw [a1, a2]; rfl
  · have a1 : (zs.take i).contains k = false := by simpa using h1
    rw [a1, Bool.false_or]
    by_cases h2 : z = k
    · have a2 : (zs.take i ++ [z]).contains k = true := by
        rw [List.contains_eq_mem]
        exact decide_eq_true (List.mem_append.2 (.inr (by rw [h2]; simp)))
      rw [a2]; simp [h2]
    · have a2 : (zs.take i ++ [z]).contains k = false := by
        rw [List.contains_eq_mem]
        exact decide_eq_false (fun h => by
          rcases List.mem_append.1 h with h | h
          · exact h1 h
          · rw [List.mem_singleton] at h; exact h2 h.symm)
      rw [a2]; symm; simpa using h2
def SeaOk (x y : Nl) (cx cy : List Int) (one : Bool) (n r : Nat) : Prop := ∀ (nets : List Int) (v u sx sy sn : Value) (fb : Nat) (w : World), NlV w v x → NlV w u y → IntSl w sx cx → IntSl w sy cy → OwnR w fb (fb + 1) sn nets → fb < w.heap.size → goodN n nets → nets.length + r = n →
  Calls Tryz.prog 58 #[v, u, sx, sy, sn, .bool one] w fun e w' => ∃ v', e = .returned v' ∧ ∃ lo, w.heap.size ≤ lo ∧ OutL w' fb lo w'.heap.size v' (srcB x y (colB cx cy) n one r nets) ∧ Below w.heap.size w w'
set_option maxRecDepth 100000 in
set_option maxHeartbeats 16000000 in
theorem sea_step (x y : Nl) (cx cy : List Int) (one : Bool) (n : Nat) (hx : nlB x = true) (hy : nlB y = true) (hxy : y.nets = x.nets) (hpl : y.ps.length = x.ps.length) (hnn : x.nets = n) (hcx : cx.length = n) (hcy : cy.length = n) (hb7 : one = true ∨ n ≤ 7)
    (r : Nat) (ih : ∀ q, r = q + 1 → SeaOk x y cx cy one n q) : SeaOk x y cx cy one n r := by
  intro nets v u sx sy sn fb w hv hu hsx hsy hsn hfb hg hl
  have hnt : x.nets.toNat = n := by omega
  have HFT := Lib.hid (fun v u sn w h h' hn => l30Fits_any x y nets v u sn w h h' hn hx hy hxy hpl (by rw [hnt]; exact hg))
  have hn24 : n ≤ 24 := by have := (nlB_facts hx).1; omega
  have HV := Lib.hid hv
  have HU := Lib.hid hu
  have HCX := Lib.hid hsx
  have HCY := Lib.hid hsy
  have HSN := Lib.hid hsn
  have HG := Lib.hid hg
  obtain ⟨a1, c1, a2, c2, rfl⟩ := hv.sized
  obtain ⟨b1, d1, b2, d2, rfl⟩ := hu.sized
  obtain ⟨ax, kx, rfl⟩ := hsx.len
  obtain ⟨ay, ky, rfl⟩ := hsy.len
  obtain ⟨an, cn, rfl⟩ := hsn.sl.len
  obtain ⟨p, hp⟩ : ∃ p, x.ps.length = p := ⟨_, rfl⟩
  obtain ⟨p2, hp2⟩ : ∃ p, y.ps.length = p := ⟨_, rfl⟩
  obtain ⟨L1, hL1⟩ : ∃ L, x.ds.length = L := ⟨_, rfl⟩
  obtain ⟨L2, hL2⟩ : ∃ L, y.ds.length = L := ⟨_, rfl⟩
  obtain ⟨m, hm⟩ : ∃ m, nets.length = m := ⟨_, rfl⟩
  rw [hxy] at HU ⊢
  rw [hnn, hp, hL1] at HV
  rw [hnn, hp2, hL2] at HU
  rw [hnn, hp, hL1, hp2, hL2, hcx, hcy, hm]
  rw [hcx] at HCX
  rw [hcy] at HCY
  rw [hm] at HSN hl
  have HML := Lib.hid hm
  obtain ⟨RR, hRR⟩ : ∃ R, srcB x y (colB cx cy) n one r nets = R := ⟨_, rfl⟩
  rw [hRR]
  have HRR := Lib.hid hRR
  clear hRR
  have HLX := Lib.hid hcx
  have HLY := Lib.hid hcy
  have hmn : m ≤ n := by omega
  have kA0 : Blk (((w.alloc (.cells #[.int .i64 (n : Int), .slice a1 L1 c1, .slice a2 p c2] 35)).alloc (.cells #[.int .i64 (n : Int), .slice b1 L2 d1, .slice b2 p2 d2] 35)).alloc (.cells #[] 27)) w.heap.size #[.int .i64 (n : Int), .slice a1 L1 c1, .slice a2 p c2] 35 := ((Blk.new _ rfl).past _).past _
  have kB0 : Blk (((w.alloc (.cells #[.int .i64 (n : Int), .slice a1 L1 c1, .slice a2 p c2] 35)).alloc (.cells #[.int .i64 (n : Int), .slice b1 L2 d1, .slice b2 p2 d2] 35)).alloc (.cells #[] 27)) (w.heap.size + 1) #[.int .i64 (n : Int), .slice b1 L2 d1, .slice b2 p2 d2] 35 := (Blk.new _ (by simp)).past _
  have kG0 : Blk (((w.alloc (.cells #[.int .i64 (n : Int), .slice a1 L1 c1, .slice a2 p c2] 35)).alloc (.cells #[.int .i64 (n : Int), .slice b1 L2 d1, .slice b2 p2 d2] 35)).alloc (.cells #[] 27)) (w.heap.size + 2) #[] 27 := Blk.new _ (by simp)
  have hbW : Below w.heap.size w (((w.alloc (.cells #[.int .i64 (n : Int), .slice a1 L1 c1, .slice a2 p c2] 35)).alloc (.cells #[.int .i64 (n : Int), .slice b1 L2 d1, .slice b2 p2 d2] 35)).alloc (.cells #[] 27)) := (((Below.refl _ w).alloc (Nat.le_refl _) _).alloc (by simp) _).alloc (by simp; omega) _
  clear hv hu hsx hsy hsn hg hp hp2 hL1 hL2 hm hx hy hxy hpl hnn hcx hcy hnt
  have qA := kA0.cell
  have qB := kB0.cell
  have lA := kA0.lt
  have lB := kB0.lt
  go_enter Tryz.func58, Tryz.ntmps58
  go_wp2_with fail
  generalize (((w.alloc (.cells #[.int .i64 (n : Int), .slice a1 L1 c1, .slice a2 p c2] 35)).alloc (.cells #[.int .i64 (n : Int), .slice b1 L2 d1, .slice b2 p2 d2] 35)).alloc (.cells #[] 27)) = w1 at *
  refine (HFT.out _ _ _ _ (HV.out.by hbW) (HU.out.by hbW) (HSN.out.sl.by hbW)).mono ?_
  rintro e w2 ⟨rfl, hb2⟩
  have kA2 := Blk.by hb2 kA0
  have kB2 := Blk.by hb2 kB0
  have kG2 := Blk.by hb2 kG0
  have hb2w := below_on hb2 hbW
  have hsz2 := hb2w.size
  have hl2 := kG2.lt
  clear hbW hb2 kA0 kB0 kG0 HFT qA qB lA lB
  cases hF : fitB x y nets with
  | false =>
    have HS := Lib.hid (show srcB x y (colB cx cy) n one r nets = [] from by unfold srcB; rw [if_neg (by rw [hF]; simp)])
    clear hF
    go_wp2
    go_ret
    exact ⟨_, rfl, w.heap.size + 2, by omega, by rw [← HRR.out, HS.out]; exact OutL.lit kG2 (by omega) (by omega) (Nat.le_refl _), hb2w⟩
  | true =>
    have HFF := Lib.hid hF
    clear hF
    cases r with
    | zero =>
      have e1 : ((m : Int) == (n : Int)) = true := by simp; omega
      have HS := Lib.hid (show srcB x y (colB cx cy) n one 0 nets = [nets] from by unfold srcB; rw [if_pos HFF.out]; rfl)
      have qA := kA2.cell
      have lA := kA2.lt
      have hOl : OutL w2 fb (w.heap.size + 2) (w.heap.size + 3) (.slice (some ⟨w.heap.size + 2, 0, none⟩) 0 0) [] := OutL.lit kG2 (by omega) (by omega) (by omega)
      have HOL := Lib.hid (hOl.by ((Below.refl _ w2).alloc (Nat.le_refl _) (.cells #[.slice an m cn] 27)))
      have HSN2 := Lib.hid (OwnR.by ((Below.refl _ w2).alloc (Nat.le_refl _) (.cells #[.slice an m cn] 27)) (OwnR.by hb2w HSN.out))
      clear hOl
      go_wp2_with (refine list_pushO (by rfl) _ _ (by rfl) fb (w.heap.size + 2) (w.heap.size + 3) (.slice (some ⟨w.heap.size + 2, 0, none⟩) 0 0) [] (by rfl) HOL.out w2.heap.size nets (.slice an m cn) fb (by rfl) (Blk.new _ rfl) HSN2.out (by omega) (by omega) (by simp; omega) (by omega) (by simp) ?_; intro g9 c9 w9 hB9 hw9; have HB9 := Lib.hid hB9; clear hB9)
      have hb9 := hw9.below (below_on ((Below.refl _ w2).alloc (Nat.le_refl _) (.cells #[.slice an m cn] 27)) hb2w) (by omega)
      go_ret
      exact ⟨_, rfl, w.heap.size + 2, by omega, by rw [← HRR.out, HS.out]; exact HB9.out, hb9⟩
    | succ r =>
      have HIH := Lib.hid (ih r rfl)
      have e1 : ((m : Int) == (n : Int)) = false := by simp; omega
      have hmlt : m < n := by omega
      have HS := Lib.hid (srcB_succ x y (colB cx cy) n one r nets HFF.out)
      have HBD := Lib.hid (fun k hk => sea_bound (x := x) (y := y) (col := colB cx cy) (n := n) (r := r) (m := nets.length) (one := one) (nets := nets) hb7 (by omega) k hk)
      have HGK0 := Lib.hid (show ∀ k : Nat, (fun k : Nat => if (colB cx cy nets.length k && !nets.contains (k : Int)) = true then srcB x y (colB cx cy) n one r (nets ++ [(k : Int)]) else []) k = (if (colB cx cy m k && !nets.contains (k : Int)) = true then srcB x y (colB cx cy) n one r (nets ++ [(k : Int)]) else []) from fun k => by rw [HML.out])
      have HRS := Lib.hid (HS.out.symm.trans HRR.out)
      clear HRR
      generalize (fun k : Nat => if (colB cx cy nets.length k && !nets.contains (k : Int)) = true then srcB x y (colB cx cy) n one r (nets ++ [(k : Int)]) else []) = G at *
      have HOL := Lib.hid (show OutL w2 fb (w.heap.size + 2) w2.heap.size (.slice (some ⟨w.heap.size + 2, 0, none⟩) 0 0) (srTo G one 0) from OutL.lit kG2 (by omega) (by omega) (Nat.le_refl _))
      have qA := kA2.cell
      have lA := kA2.lt
      clear ih HS
      go_wp2
      go_loopw [13, 14] (fun ov kv wr => ∃ (k g nO cO hi : Nat), k ≤ n ∧ ov = .slice (some ⟨g, 0, none⟩) nO cO ∧ kv = .int .i64 (k : Int) ∧ Hid (OutL wr fb (w.heap.size + 2) hi (.slice (some ⟨g, 0, none⟩) nO cO) (srTo G one k)) ∧ Hid ((srTo G one k).length = nO) ∧ w.heap.size + 2 ≤ hi ∧ hi ≤ wr.heap.size ∧ Blk wr w.heap.size #[.int .i64 (n : Int), .slice a1 L1 c1, .slice a2 p c2] 35 ∧ Blk wr (w.heap.size + 1) #[.int .i64 (n : Int), .slice b1 L2 d1, .slice b2 p2 d2] 35 ∧ Below w.heap.size w wr) (fun _ kv _ => n - (intOf kv).toNat)
      case atStart => exact ⟨0, _, 0, 0, w2.heap.size, Nat.zero_le _, rfl, rfl, HOL, Lib.hid rfl, by omega, Nat.le_refl _, kA2, kB2, hb2w⟩
      case round =>
        clear HOL kA2 kB2 kG2 qA lA hb2w hsz2 hl2
        obtain ⟨k, g, nO, cO, hi, hk, rfl, rfl, HB, HNO, hhi, hhs, kA, kB, hb⟩ := hrel
        have qB := kB.cell
        have lB := kB.lt
        obtain ⟨C, hC⟩ : ∃ C : Bool, C = (decide (k < n) && !(one && decide (0 < nO))) := ⟨_, rfl⟩
        have HC := Lib.hid hC
        go_upto_region 7 with fail
        go_cut [45] from 33 to 88 (fun cc wx => cc = .bool C ∧ Below wr.heap.size wr wx)
        case first =>
          by_cases h1 : k < n
          · have i1 : (k : Int) < (n : Int) := by omega
            have i2 : decide (k < n) = true := decide_eq_true h1
            rw [i2] at hC
            cases one with
            | false =>
              obtain rfl : C = true := hC
              clear h1
              go_wp2
              go_meet
              exact ⟨rfl, blwT⟩
            | true =>
              by_cases h2 : 0 < nO
              · have i3 : decide (0 < nO) = true := decide_eq_true h2
                have i4 : (0 : Int) < (nO : Int) := by omega
                rw [i3] at hC
                obtain rfl : C = false := hC
                clear h1 h2
                go_wp2
                go_meet
                exact ⟨rfl, blwT⟩
              · have i3 : decide (0 < nO) = false := decide_eq_false h2
                have i4 : ¬ (0 : Int) < (nO : Int) := by omega
                rw [i3] at hC
                obtain rfl : C = true := hC
                clear h1 h2
                go_wp2
                go_meet
                exact ⟨rfl, blwT⟩
          · have i1 : ¬ (k : Int) < (n : Int) := by omega
            have i2 : decide (k < n) = false := decide_eq_false h1
            rw [i2] at hC
            obtain rfl : C = false := hC
            clear h1
            go_wp2
            go_meet
            exact ⟨rfl, blwT⟩
        case rest =>
        obtain ⟨rfl, hbc⟩ := hcut
        have HB := Lib.hid (HB.out.by hbc)
        have kA := Blk.by hbc kA
        have kB := Blk.by hbc kB
        have hbz := below_on hbc hb
        have hsc := hbc.size
        obtain ⟨wy, rfl⟩ : ∃ z : World, z = wc := ⟨_, rfl⟩
        clear hbc hb qB lB hC
        cases C with
        | false =>
          have hEQ : srTo G one k = srTo G one n := by
            have h := HC.out
            by_cases h1 : k < n
            · rw [decide_eq_true h1] at h
              have h2 : one = true ∧ 0 < nO := by
                cases one
                · cases h
                · by_cases q : 0 < nO
                  · exact ⟨rfl, q⟩
                  · rw [decide_eq_false q] at h; cases h
              have := srTo_stop (g := G) (one := one) (k := k) h2.1 (by rw [HNO.out]; exact h2.2) (n - k)
              rw [show k + (n - k) = n by omega] at this
              exact this.symm
            · obtain rfl : n = k := by omega
              rfl
          have HEQ := Lib.hid hEQ
          clear hEQ
          go_wp2
          go_ret
          exact ⟨_, rfl, w.heap.size + 2, by omega, by rw [← HRS.out, ← HEQ.out]; exact HB.out.wide, hbz⟩
        | true =>
          have hCC : k < n ∧ ¬ (one && decide (0 < (srTo G one k).length)) = true := by
            have h := HC.out
            rw [HNO.out]
            by_cases h1 : k < n
            · refine ⟨h1, fun q => ?_⟩
              rw [q] at h
              simp at h
            · rw [decide_eq_false h1] at h; cases h
          have hkn := hCC.1
          have HNS := Lib.hid hCC.2
          clear hCC HC
          have hnb : nO ≤ 900000 := by rw [← HNO.out]; exact (HBD.out k (by omega)).1
          obtain ⟨V1, hV1⟩ : ∃ V, nmOf cx (m : Int) = V := ⟨_, rfl⟩
          obtain ⟨V2, hV2⟩ : ∃ V, nmOf cy (k : Int) = V := ⟨_, rfl⟩
          obtain ⟨D, hD⟩ : ∃ D : Bool, D = decide (V1 = V2) := ⟨_, rfl⟩
          have hcol : colB cx cy m k = D := by unfold colB; rw [hV1, hV2, hD]
          have hGK1 := HGK0.out k
          rw [hcol] at hGK1
          have HGK1 := Lib.hid hGK1
          obtain ⟨xb, xo, xc, hex, lx, cxs⟩ := (HCX.out.by hbz).nm (by rw [HLX.out]; omega)
          obtain ⟨rfl, rfl⟩ : ax = some ⟨xb, xo, none⟩ ∧ kx = xc := by
            simp only [Value.slice.injEq] at hex
            exact ⟨hex.1, hex.2.2⟩
          obtain ⟨yb, yo, yc, hey, ly, cys⟩ := (HCY.out.by hbz).nm (by rw [HLY.out]; omega)
          obtain ⟨rfl, rfl⟩ : ay = some ⟨yb, yo, none⟩ ∧ ky = yc := by
            simp only [Value.slice.injEq] at hey
            exact ⟨hey.1, hey.2.2⟩
          have cm := cxs m (by rw [HLX.out]; exact hmlt)
          have ck := cys k (by rw [HLY.out]; exact hkn)
          rw [hV1] at cm
          rw [hV2] at ck
          have i1 : decide (m < n) = true := decide_eq_true hmlt
          have i2 : (m : Int) < (n : Int) := by omega
          have i3 : decide (k < n) = true := decide_eq_true hkn
          have i4 : (k : Int) < (n : Int) := by omega
          clear hcol hGK1 hex hey cxs cys hV1 hV2
          go_upto_region 9 with fail
          go_cut [15] from 33 to 88 (fun cc wx => cc = .bool (!D) ∧ Below wy.heap.size wy wx)
          case first =>
            by_cases hvv : V1 = V2
            · rw [decide_eq_true hvv] at hD
              subst hD
              subst hvv
              have j1 : (V1 != V1) = false := by simp
              have j2 : (V1 == V1) = true := by simp
              go_quiet (fail)
              go_wp2
              go_meet
              exact ⟨rfl, blwT⟩
            · rw [decide_eq_false hvv] at hD
              subst hD
              have j1 : (V1 != V2) = true := by simpa using hvv
              have j2 : (V1 == V2) = false := by simpa using hvv
              clear hvv
              go_quiet (fail)
              go_wp2
              go_meet
              exact ⟨rfl, blwT⟩
          case rest =>
          obtain ⟨rfl, hbc⟩ := hcut
          have HB := Lib.hid (HB.out.by hbc)
          have kA := Blk.by hbc kA
          have kB := Blk.by hbc kB
          have hbz := below_on hbc hbz
          have hsc := hbc.size
          obtain ⟨wz, rfl⟩ : ∃ z : World, z = wc := ⟨_, rfl⟩
          clear hbc cm ck lx ly hD i1 i2
          go_wp2
          go_loopw [15, 16] (fun uv iv wr => ∃ i : Nat, i ≤ m ∧ iv = .int .i64 (i : Int) ∧ uv = .bool (!D || (nets.take i).contains (k : Int)) ∧ wz = wr) (fun _ iv _ => m - (intOf iv).toNat)
          case atStart => exact ⟨0, Nat.zero_le _, rfl, by simp, rfl⟩
          case round =>
            obtain ⟨i, hi0, rfl, rfl, rfl⟩ := hrel
            by_cases hit : i < m
            · obtain ⟨z, hz⟩ : ∃ z, nets[i]? = some z := ⟨_, List.getElem?_eq_getElem (by rw [HML.out]; exact hit)⟩
              have HCS := Lib.hid (contains_step hz (k : Int))
              obtain ⟨nb, no, nc, hen, ln, cns⟩ := (HSN.out.sl.by hbz).nm (by rw [HML.out]; omega)
              obtain ⟨rfl, rfl⟩ : an = some ⟨nb, no, none⟩ ∧ cn = nc := by
                simp only [Value.slice.injEq] at hen
                exact ⟨hen.1, hen.2.2⟩
              have cz := cns i (by rw [HML.out]; exact hit)
              have e5 : nmOf nets (i : Int) = z := by unfold nmOf; rw [Int.toNat_natCast, List.getD_eq_getElem?_getD, hz]; rfl
              rw [e5] at cz
              have i1 : (i : Int) < (m : Int) := by omega
              have i2 : decide (i < m) = true := decide_eq_true hit
              obtain ⟨T, hT⟩ : ∃ T, (!D || (nets.take i).contains (k : Int)) = T := ⟨_, rfl⟩
              have HT := Lib.hid (show (!D || (nets.take (i + 1)).contains (k : Int)) = (T || (z == (k : Int))) from by rw [HCS.out, ← hT, Bool.or_assoc])
              rw [hT]
              clear hen cns e5 hz hT HCS
              cases T with
              | true =>
                rw [Bool.true_or] at HT
                go_wp2
                exact ⟨⟨i + 1, by omega, by go_num, by rw [HT.out], (by first | trivial | rfl)⟩, by simp [intOf]; omega⟩
              | false =>
                rw [Bool.false_or] at HT
                cases hzk : (z == (k : Int)) with
                | true =>
                  rw [hzk] at HT
                  go_wp2
                  exact ⟨⟨i + 1, by omega, by go_num, by rw [HT.out], (by first | trivial | rfl)⟩, by simp [intOf]; omega⟩
                | false =>
                  rw [hzk] at HT
                  go_wp2
                  exact ⟨⟨i + 1, by omega, by go_num, by rw [HT.out], (by first | trivial | rfl)⟩, by simp [intOf]; omega⟩
            · obtain rfl : m = i := by omega
              have i1 : ¬ (m : Int) < (m : Int) := by omega
              have htk : nets.take m = nets := by rw [← HML.out]; exact List.take_length
              rw [htk]
              clear htk hit
              obtain ⟨U, hU⟩ : ∃ U, (!D || nets.contains (k : Int)) = U := ⟨_, rfl⟩
              have HUU := Lib.hid hU
              rw [hU]
              cases U with
              | true =>
                have hg0 : G k = [] := by
                  rw [HGK1.out, if_neg (by intro q; simp only [Bool.and_eq_true, Bool.not_eq_true'] at q; rw [q.1, q.2] at hU; cases hU)]
                have HG0 := Lib.hid hg0
                clear hU hg0
                go_wp2
                exact ⟨⟨k + 1, g, nO, cO, hi, by omega, by rfl, by go_num, Lib.hid (by rw [srTo_next HNS.out, HG0.out, List.append_nil]; exact HB.out), Lib.hid (by rw [srTo_next HNS.out, HG0.out, List.append_nil]; exact HNO.out), by omega, by omega, kA, kB, hbz⟩, by simp [intOf]; omega⟩
              | false =>
                have hq : D = true ∧ nets.contains (k : Int) = false := by
                  cases D
                  · cases hU
                  · exact ⟨rfl, by simpa using hU⟩
                have HGK := Lib.hid (show G k = srcB x y (colB cx cy) n one r (nets ++ [(k : Int)]) from by rw [HGK1.out, if_pos (by rw [hq.1, hq.2]; rfl)])
                have HGD := Lib.hid (show goodN n (nets ++ [(k : Int)]) from ⟨by
                  rw [List.nodup_append]
                  exact ⟨HG.out.1, by simp, fun a ha b hb e => by
                    rw [List.mem_singleton] at hb
                    subst e; subst hb
                    have := hq.2
                    simp at this
                    exact this ha⟩, fun z hz => by
                  rcases List.mem_append.1 hz with h | h
                  · exact HG.out.2 z h
                  · rw [List.mem_singleton] at h; omega⟩)
                clear hU hq HUU
                have HSZ := Lib.hid (HSN.out.sl.by hbz)
                go_upto_region 15 with fail
                have hS : (fun w' : World => Blk w' w.heap.size #[.int .i64 (n : Int), .slice a1 L1 c1, .slice a2 p c2] 35 ∧ Blk w' (w.heap.size + 1) #[.int .i64 (n : Int), .slice b1 L2 d1, .slice b2 p2 d2] 35) { wz with drawn := wz.drawn + 1 } := ⟨kA.drew, kB.drew⟩
                refine wp_region_any (by kernel_rfl) (wpAny_of_E (S := fun w' : World => Blk w' w.heap.size #[.int .i64 (n : Int), .slice a1 L1 c1, .slice a2 p c2] 35 ∧ Blk w' (w.heap.size + 1) #[.int .i64 (n : Int), .slice b1 L2 d1, .slice b2 p2 d2] 35) (l := 14) _ _ _ _ ?_)
                change wpAnyE _ _ _ _ _ _ _ _ _ wz.drew
                refine wpAnyE_takeL (i := 0) (v := ?_) rfl (by kernel_rfl) (fun _ _ _ h => h) (Or.inl ⟨by rfl, ?_⟩) hS ?_
                rotate_left
                · intro w hSw; (try dsimp only at hSw); have qA := hSw.1.cell; have qB := hSw.2.cell; have lA := hSw.1.lt; have lB := hSw.2.lt; clear hSw; go_simp; (try with_reducible rfl)
                try simp only [Act.put, List.setIfInBounds_toArray, List.set_cons_zero, List.set_cons_succ]
                refine wpAnyE_takeL (i := 1) (v := ?_) rfl (by kernel_rfl) (fun _ _ _ h => h) (Or.inl ⟨by rfl, ?_⟩) hS ?_
                rotate_left
                · intro w hSw; (try dsimp only at hSw); have qA := hSw.1.cell; have qB := hSw.2.cell; have lA := hSw.1.lt; have lB := hSw.2.lt; clear hSw; go_simp; (try with_reducible rfl)
                try simp only [Act.put, List.setIfInBounds_toArray, List.set_cons_zero, List.set_cons_succ]
                refine wpAnyE_takeL (i := 2) (v := ?_) rfl (by kernel_rfl) (fun _ _ _ h => h) (Or.inl ⟨by rfl, ?_⟩) hS ?_
                rotate_left
                · intro w hSw; (try dsimp only at hSw); have qA := hSw.1.cell; have qB := hSw.2.cell; have lA := hSw.1.lt; have lB := hSw.2.lt; clear hSw; go_simp; (try with_reducible rfl)
                try simp only [Act.put, List.setIfInBounds_toArray, List.set_cons_zero, List.set_cons_succ]
                refine wpAnyE_takeL (i := 3) (v := ?_) rfl (by kernel_rfl) (fun _ _ _ h => h) (Or.inl ⟨by rfl, ?_⟩) hS ?_
                rotate_left
                · intro w hSw; (try dsimp only at hSw); have qA := hSw.1.cell; have qB := hSw.2.cell; have lA := hSw.1.lt; have lB := hSw.2.lt; clear hSw; go_simp; (try with_reducible rfl)
                try simp only [Act.put, List.setIfInBounds_toArray, List.set_cons_zero, List.set_cons_succ]
                refine wpAnyE_takeL (i := 4) (v := ?_) rfl (by kernel_rfl) (fun _ _ _ h => h) (Or.inl ⟨by rfl, ?_⟩) hS ?_
                rotate_left
                · intro w hSw; (try dsimp only at hSw); have qA := hSw.1.cell; have qB := hSw.2.cell; have lA := hSw.1.lt; have lB := hSw.2.lt; clear hSw; go_simp; (try with_reducible rfl)
                try simp only [Act.put, List.setIfInBounds_toArray, List.set_cons_zero, List.set_cons_succ]
                refine wpAnyE_takeL (i := 6) (v := ?_) rfl (by kernel_rfl) (fun _ _ _ h => h) (Or.inl ⟨by rfl, ?_⟩) hS ?_
                rotate_left
                · intro w hSw; (try dsimp only at hSw); have qA := hSw.1.cell; have qB := hSw.2.cell; have lA := hSw.1.lt; have lB := hSw.2.lt; clear hSw; go_simp; (try with_reducible rfl)
                try simp only [Act.put, List.setIfInBounds_toArray, List.set_cons_zero, List.set_cons_succ]
                refine wpAnyE_takeL (i := 8) (v := ?_) rfl (by kernel_rfl) (fun _ _ _ h => h) (Or.inl ⟨by rfl, ?_⟩) hS ?_
                rotate_left
                · intro w hSw; (try dsimp only at hSw); have qA := hSw.1.cell; have qB := hSw.2.cell; have lA := hSw.1.lt; have lB := hSw.2.lt; clear hSw; go_simp; (try with_reducible rfl)
                try simp only [Act.put, List.setIfInBounds_toArray, List.set_cons_zero, List.set_cons_succ]
                refine wpAnyE_takeL (i := 11) (v := ?_) rfl (by kernel_rfl) (fun _ _ _ h => h) (Or.inl ⟨by rfl, ?_⟩) hS ?_
                rotate_left
                · intro w hSw; (try dsimp only at hSw); have qA := hSw.1.cell; have qB := hSw.2.cell; have lA := hSw.1.lt; have lB := hSw.2.lt; clear hSw; go_simp; (try with_reducible rfl)
                try simp only [Act.put, List.setIfInBounds_toArray, List.set_cons_zero, List.set_cons_succ]
                refine wpAnyE_twoL (k := 5) (k' := 9) (by kernel_rfl) rfl rfl (fun K hK => ?_) (fun K hK => ?_)
                · go_simp
                  have k0 : Blk (wz.alloc (.cells #[] 2)).drew wz.heap.size #[] 2 := (Blk.new _ rfl).drew
                  have hal : Below wz.heap.size wz (wz.alloc (.cells #[] 2)).drew := ((Below.refl _ wz).alloc (Nat.le_refl _) _).drew
                  have hsa : wz.heap.size + 1 ≤ (wz.alloc (.cells #[] 2)).drew.heap.size := by simp [World.size_drew]
                  have hsb : (wz.alloc (.cells #[] 2)).drew.heap.size ≤ wz.heap.size + 1 := by simp [World.size_drew]
                  refine hK.out _ _ (fun _ => ⟨Blk.by hal kA, Blk.by hal kB⟩) ?_
                  try simp only [Act.put, List.setIfInBounds_toArray, List.set_cons_zero, List.set_cons_succ]
                  generalize (wz.alloc (.cells #[] 2)).drew = wa at *
                  have hB0 : BldI wa wz.heap.size (wz.heap.size + 1) (.slice (some ⟨wz.heap.size, 0, none⟩) 0 0) [] := BldI.lit (zs := []) k0 rfl (by simp) (Nat.le_refl _) (by omega) (by omega)
                  clear k0
                  refine wpAnyE_twoL (k := 7) (k' := 9) (by kernel_rfl) rfl rfl (fun K hK => ?_) (fun K hK => ?_)
                  · refine step_catI (by rfl) _ _ (by rfl) wz.heap.size (wz.heap.size + 1) wz.heap.size 0 0 m [] nets (by rfl) hB0 rfl (.slice an m cn) (by rfl) (HSZ.out.by hal) HML.out (by omega) (by omega) ?_
                    intro g7 c7 w7 hB7 hw7
                    have hL7 : Below wz.heap.size wz w7 := hw7.below hal (Nat.le_refl _)
                    have hs7 := hw7.size
                    simp only [Nat.zero_add, List.nil_append] at hB7 ⊢
                    refine hK.out _ _ (fun _ => ⟨Blk.by hL7 kA, Blk.by hL7 kB⟩) ?_
                    try simp only [Act.put, List.setIfInBounds_toArray, List.set_cons_zero, List.set_cons_succ]
                    refine wpAnyE_oneL (k := 9) (by kernel_rfl) rfl (fun K hK => ?_)
                    go_simp
                    have hNT : Blk (w7.alloc (.cells #[.int .i64 (k : Int)] 2)) w7.heap.size #[.int .i64 (k : Int)] 2 := Blk.new _ rfl
                    have hLT : Below wz.heap.size wz (w7.alloc (.cells #[.int .i64 (k : Int)] 2)) := hL7.alloc (by omega) _
                    have hBT := hB7.by ((Below.refl _ w7).alloc (Nat.le_refl _) (.cells #[.int .i64 (k : Int)] 2))
                    have hs8 : w7.heap.size + 1 ≤ (w7.alloc (.cells #[.int .i64 (k : Int)] 2)).heap.size := by simp
                    obtain ⟨h9, hh9⟩ : ∃ h, w7.heap.size = h := ⟨_, rfl⟩
                    rw [hh9] at hNT hBT hs8 hs7 ⊢
                    refine hK.out _ _ (fun _ => ⟨Blk.by hLT kA, Blk.by hLT kB⟩) ?_
                    try simp only [Act.put, List.setIfInBounds_toArray, List.set_cons_zero, List.set_cons_succ]
                    generalize w7.alloc (.cells #[.int .i64 (k : Int)] 2) = wT at *
                    clear hh9 hL7 hw7 hB7 hB0 hal
                    have kA1 := Blk.by hLT kA
                    have kB1 := Blk.by hLT kB
                    have hsT := hLT.size
                    refine wpAnyE_oneL (k := 10) (by kernel_rfl) rfl (fun K hK => ?_)
                    refine step_pushIm (by rfl) _ _ (by rfl) wz.heap.size h9 m nets [(k : Int)] HML.out (by rfl) hBT h9 1 #[.int .i64 (k : Int)] (by rfl) rfl (by omega) hNT rfl (by omega) (by omega) ?_
                    intro a9 c9 w9 hB9 hw9
                    have kA9 := hw9.blk kA1 (by omega)
                    have kB9 := hw9.blk kB1 (by omega)
                    have HO9 := Lib.hid (HB.out.by (hw9.below hLT (by omega)))
                    have hb9w : Below w.heap.size w w9 := hw9.below (below_on hLT hbz) (by omega)
                    have hs9 := hw9.size
                    obtain ⟨f, hf1, hf⟩ := OwnR.pick hB9.own (show wz.heap.size < w9.heap.size by omega)
                    have HF9 := Lib.hid hf
                    refine hK.out _ _ (fun _ => ⟨kA9, kB9⟩) ?_
                    try simp only [Act.put, List.setIfInBounds_toArray, List.set_cons_zero, List.set_cons_succ]
                    refine wpAnyE_oneL (k := 12) (by kernel_rfl) rfl (fun K hK => ?_)
                    go_simp
                    go_at_call 58
                    refine (HIH.out (nets ++ [(k : Int)]) _ _ _ _ _ f w9 (HV.out.by hb9w) (HU.out.by hb9w) (HCX.out.by hb9w) (HCY.out.by hb9w) HF9.out (by omega) HGD.out (by rw [List.length_append, HML.out, List.length_singleton]; omega)).mono ?_
                    rintro e w10 ⟨v10, rfl, lo10, hlo10, hO10, hb10⟩
                    have HO10 := Lib.hid hO10
                    obtain ⟨ga, cM, rfl⟩ := hO10.sized
                    obtain ⟨M, hM⟩ : ∃ M, (srcB x y (colB cx cy) n one r (nets ++ [(k : Int)])).length = M := ⟨_, rfl⟩
                    rw [hM] at HO10 ⊢
                    have hMb : M ≤ 900000 := by rw [← hM, ← HGK.out]; exact (HBD.out k (by omega)).2
                    have HM := Lib.hid hM
                    have kA10 := Blk.by hb10 kA9
                    have kB10 := Blk.by hb10 kB9
                    have HOX := Lib.hid (HO9.out.by hb10)
                    have hb10w := below_on hb10 hb9w
                    have hs10 := hb10.size
                    clear hO10 hM hb10 HO9 HF9 kA1 kB1 kA9 kB9 hB9 hw9 hBT hNT hLT hS
                    refine hK.out _ _ (fun _ => ⟨kA10, kB10⟩) ?_
                    try simp only [Act.put, List.setIfInBounds_toArray, List.set_cons_zero, List.set_cons_succ]
                    refine wpAnyE_oneL (k := 13) (by kernel_rfl) rfl (fun K hK => ?_)
                    refine step_appP (by rfl) _ _ (by rfl) fb (w.heap.size + 2) hi g nO cO (srTo G one k) (srcB x y (colB cx cy) n one r (nets ++ [(k : Int)])) (by rfl) HOX.out HNO.out f lo10 w10.heap.size M (.slice ga M cM) (by rfl) HO10.out HM.out (by omega) (by omega) (by omega) (by omega) ?_
                    intro gg cc w11 hO11 hw11
                    have kA11 := hw11.blk kA10 (by omega)
                    have kB11 := hw11.blk kB10 (by omega)
                    have hb11w : Below w.heap.size w w11 := hw11.below hb10w (by omega)
                    have hs11 := hw11.size
                    have HO11 := Lib.hid hO11
                    refine hK.out _ _ (fun _ => ⟨kA11, kB11⟩) ?_
                    try simp only [Act.put, List.setIfInBounds_toArray, List.set_cons_zero, List.set_cons_succ]
                    refine wpAnyE_oneL (k := 14) (by kernel_rfl) rfl (fun K hK => ?_)
                    go_simp
                    refine hK.out _ _ (fun h => absurd rfl h) ?_
                    refine wpAnyE_done (by kernel_rfl) ?_ _
                    clear hO11 hw11 HOX HO10 kA10 kB10 hb10w
                    go_wp2
                    exact ⟨⟨k + 1, gg, nO + M, cc, w11.heap.size, by omega, by rfl, by go_num, Lib.hid (by rw [srTo_next HNS.out, HGK.out]; exact HO11.out), Lib.hid (by rw [srTo_next HNS.out, HGK.out, List.length_append, HNO.out, HM.out]), by omega, Nat.le_refl _, kA11, kB11, hb11w⟩, by simp [intOf]; omega⟩
                  · go_simp
                    have hNa : Blk (wa.alloc (.cells #[.int .i64 (k : Int)] 2)) wa.heap.size #[.int .i64 (k : Int)] 2 := Blk.new _ rfl
                    have hLa : Below wz.heap.size wz (wa.alloc (.cells #[.int .i64 (k : Int)] 2)) := hal.alloc (by omega) _
                    have hBa := hB0.by ((Below.refl _ wa).alloc (Nat.le_refl _) (.cells #[.int .i64 (k : Int)] 2))
                    have hsd : wa.heap.size + 1 ≤ (wa.alloc (.cells #[.int .i64 (k : Int)] 2)).heap.size := by simp
                    obtain ⟨h9, hh9⟩ : ∃ h, wa.heap.size = h := ⟨_, rfl⟩
                    rw [hh9] at hNa hsa hsb hsd ⊢
                    refine hK.out _ _ (fun _ => ⟨Blk.by hLa kA, Blk.by hLa kB⟩) ?_
                    try simp only [Act.put, List.setIfInBounds_toArray, List.set_cons_zero, List.set_cons_succ]
                    generalize wa.alloc (.cells #[.int .i64 (k : Int)] 2) = wb at *
                    clear hh9 hB0 hal
                    refine wpAnyE_oneL (k := 7) (by kernel_rfl) rfl (fun K hK => ?_)
                    refine step_catI (by rfl) _ _ (by rfl) wz.heap.size (wz.heap.size + 1) wz.heap.size 0 0 m [] nets (by rfl) hBa rfl (.slice an m cn) (by rfl) (HSZ.out.by hLa) HML.out (by omega) (by omega) ?_
                    intro g7 c7 wT hBT hw7
                    have hLT : Below wz.heap.size wz wT := hw7.below hLa (Nat.le_refl _)
                    have hNT := hw7.blk hNa (by omega)
                    have hs7 := hw7.size
                    simp only [Nat.zero_add, List.nil_append] at hBT ⊢
                    refine hK.out _ _ (fun _ => ⟨Blk.by hLT kA, Blk.by hLT kB⟩) ?_
                    try simp only [Act.put, List.setIfInBounds_toArray, List.set_cons_zero, List.set_cons_succ]
                    clear hw7 hBa hLa hNa
                    have kA1 := Blk.by hLT kA
                    have kB1 := Blk.by hLT kB
                    have hsT := hLT.size
                    refine wpAnyE_oneL (k := 10) (by kernel_rfl) rfl (fun K hK => ?_)
                    refine step_pushIm (by rfl) _ _ (by rfl) wz.heap.size wT.heap.size m nets [(k : Int)] HML.out (by rfl) hBT h9 1 #[.int .i64 (k : Int)] (by rfl) rfl (by omega) hNT rfl (by omega) (by omega) ?_
                    intro a9 c9 w9 hB9 hw9
                    have kA9 := hw9.blk kA1 (by omega)
                    have kB9 := hw9.blk kB1 (by omega)
                    have HO9 := Lib.hid (HB.out.by (hw9.below hLT (by omega)))
                    have hb9w : Below w.heap.size w w9 := hw9.below (below_on hLT hbz) (by omega)
                    have hs9 := hw9.size
                    obtain ⟨f, hf1, hf⟩ := OwnR.pick hB9.own (show wz.heap.size < w9.heap.size by omega)
                    have HF9 := Lib.hid hf
                    refine hK.out _ _ (fun _ => ⟨kA9, kB9⟩) ?_
                    try simp only [Act.put, List.setIfInBounds_toArray, List.set_cons_zero, List.set_cons_succ]
                    refine wpAnyE_oneL (k := 12) (by kernel_rfl) rfl (fun K hK => ?_)
                    go_simp
                    go_at_call 58
                    refine (HIH.out (nets ++ [(k : Int)]) _ _ _ _ _ f w9 (HV.out.by hb9w) (HU.out.by hb9w) (HCX.out.by hb9w) (HCY.out.by hb9w) HF9.out (by omega) HGD.out (by rw [List.length_append, HML.out, List.length_singleton]; omega)).mono ?_
                    rintro e w10 ⟨v10, rfl, lo10, hlo10, hO10, hb10⟩
                    have HO10 := Lib.hid hO10
                    obtain ⟨ga, cM, rfl⟩ := hO10.sized
                    obtain ⟨M, hM⟩ : ∃ M, (srcB x y (colB cx cy) n one r (nets ++ [(k : Int)])).length = M := ⟨_, rfl⟩
                    rw [hM] at HO10 ⊢
                    have hMb : M ≤ 900000 := by rw [← hM, ← HGK.out]; exact (HBD.out k (by omega)).2
                    have HM := Lib.hid hM
                    have kA10 := Blk.by hb10 kA9
                    have kB10 := Blk.by hb10 kB9
                    have HOX := Lib.hid (HO9.out.by hb10)
                    have hb10w := below_on hb10 hb9w
                    have hs10 := hb10.size
                    clear hO10 hM hb10 HO9 HF9 kA1 kB1 kA9 kB9 hB9 hw9 hBT hNT hLT hS
                    refine hK.out _ _ (fun _ => ⟨kA10, kB10⟩) ?_
                    try simp only [Act.put, List.setIfInBounds_toArray, List.set_cons_zero, List.set_cons_succ]
                    refine wpAnyE_oneL (k := 13) (by kernel_rfl) rfl (fun K hK => ?_)
                    refine step_appP (by rfl) _ _ (by rfl) fb (w.heap.size + 2) hi g nO cO (srTo G one k) (srcB x y (colB cx cy) n one r (nets ++ [(k : Int)])) (by rfl) HOX.out HNO.out f lo10 w10.heap.size M (.slice ga M cM) (by rfl) HO10.out HM.out (by omega) (by omega) (by omega) (by omega) ?_
                    intro gg cc w11 hO11 hw11
                    have kA11 := hw11.blk kA10 (by omega)
                    have kB11 := hw11.blk kB10 (by omega)
                    have hb11w : Below w.heap.size w w11 := hw11.below hb10w (by omega)
                    have hs11 := hw11.size
                    have HO11 := Lib.hid hO11
                    refine hK.out _ _ (fun _ => ⟨kA11, kB11⟩) ?_
                    try simp only [Act.put, List.setIfInBounds_toArray, List.set_cons_zero, List.set_cons_succ]
                    refine wpAnyE_oneL (k := 14) (by kernel_rfl) rfl (fun K hK => ?_)
                    go_simp
                    refine hK.out _ _ (fun h => absurd rfl h) ?_
                    refine wpAnyE_done (by kernel_rfl) ?_ _
                    clear hO11 hw11 HOX HO10 kA10 kB10 hb10w
                    go_wp2
                    exact ⟨⟨k + 1, gg, nO + M, cc, w11.heap.size, by omega, by rfl, by go_num, Lib.hid (by rw [srTo_next HNS.out, HGK.out]; exact HO11.out), Lib.hid (by rw [srTo_next HNS.out, HGK.out, List.length_append, HNO.out, HM.out]), by omega, Nat.le_refl _, kA11, kB11, hb11w⟩, by simp [intOf]; omega⟩
                · go_simp
                  have hNa : Blk (wz.alloc (.cells #[.int .i64 (k : Int)] 2)).drew wz.heap.size #[.int .i64 (k : Int)] 2 := (Blk.new _ rfl).drew
                  have hLa : Below wz.heap.size wz (wz.alloc (.cells #[.int .i64 (k : Int)] 2)).drew := ((Below.refl _ wz).alloc (Nat.le_refl _) _).drew
                  have hsa : wz.heap.size + 1 ≤ (wz.alloc (.cells #[.int .i64 (k : Int)] 2)).drew.heap.size := by simp [World.size_drew]
                  have hsb : (wz.alloc (.cells #[.int .i64 (k : Int)] 2)).drew.heap.size ≤ wz.heap.size + 1 := by simp [World.size_drew]
                  refine hK.out _ _ (fun _ => ⟨Blk.by hLa kA, Blk.by hLa kB⟩) ?_
                  try simp only [Act.put, List.setIfInBounds_toArray, List.set_cons_zero, List.set_cons_succ]
                  generalize (wz.alloc (.cells #[.int .i64 (k : Int)] 2)).drew = wa at *
                  refine wpAnyE_oneL (k := 5) (by kernel_rfl) rfl (fun K hK => ?_)
                  go_simp
                  have k0 : Blk (wa.alloc (.cells #[] 2)) wa.heap.size #[] 2 := Blk.new _ rfl
                  have hNb := Blk.by ((Below.refl _ wa).alloc (Nat.le_refl _) (.cells #[] 2)) hNa
                  have hLb : Below wz.heap.size wz (wa.alloc (.cells #[] 2)) := hLa.alloc (by omega) _
                  have hsd : wa.heap.size + 1 ≤ (wa.alloc (.cells #[] 2)).heap.size := by simp
                  obtain ⟨h0, hh0⟩ : ∃ h, wa.heap.size = h := ⟨_, rfl⟩
                  rw [hh0] at k0 hsa hsb hsd ⊢
                  refine hK.out _ _ (fun _ => ⟨Blk.by hLb kA, Blk.by hLb kB⟩) ?_
                  try simp only [Act.put, List.setIfInBounds_toArray, List.set_cons_zero, List.set_cons_succ]
                  generalize wa.alloc (.cells #[] 2) = wb at *
                  have hB0 : BldI wb h0 (h0 + 1) (.slice (some ⟨h0, 0, none⟩) 0 0) [] := BldI.lit (zs := []) k0 rfl (by simp) (Nat.le_refl _) (by omega) (by omega)
                  clear k0 hh0 hNa hLa
                  refine wpAnyE_oneL (k := 7) (by kernel_rfl) rfl (fun K hK => ?_)
                  refine step_catI (by rfl) _ _ (by rfl) h0 (h0 + 1) h0 0 0 m [] nets (by rfl) hB0 rfl (.slice an m cn) (by rfl) (HSZ.out.by hLb) HML.out (by omega) (by omega) ?_
                  intro g7 c7 wT hBT hw7
                  have hLT : Below wz.heap.size wz wT := hw7.below hLb (by omega)
                  have hNT := hw7.blk hNb (by omega)
                  have hs7 := hw7.size
                  simp only [Nat.zero_add, List.nil_append] at hBT ⊢
                  refine hK.out _ _ (fun _ => ⟨Blk.by hLT kA, Blk.by hLT kB⟩) ?_
                  try simp only [Act.put, List.setIfInBounds_toArray, List.set_cons_zero, List.set_cons_succ]
                  clear hw7 hB0 hLb hNb
                  have kA1 := Blk.by hLT kA
                  have kB1 := Blk.by hLT kB
                  have hsT := hLT.size
                  refine wpAnyE_oneL (k := 10) (by kernel_rfl) rfl (fun K hK => ?_)
                  refine step_pushIm (by rfl) _ _ (by rfl) h0 wT.heap.size m nets [(k : Int)] HML.out (by rfl) hBT wz.heap.size 1 #[.int .i64 (k : Int)] (by rfl) rfl (by omega) hNT rfl (by omega) (by omega) ?_
                  intro a9 c9 w9 hB9 hw9
                  have kA9 := hw9.blk kA1 (by omega)
                  have kB9 := hw9.blk kB1 (by omega)
                  have HO9 := Lib.hid (HB.out.by (hw9.below hLT (by omega)))
                  have hb9w : Below w.heap.size w w9 := hw9.below (below_on hLT hbz) (by omega)
                  have hs9 := hw9.size
                  obtain ⟨f, hf1, hf⟩ := OwnR.pick hB9.own (show h0 < w9.heap.size by omega)
                  have HF9 := Lib.hid hf
                  refine hK.out _ _ (fun _ => ⟨kA9, kB9⟩) ?_
                  try simp only [Act.put, List.setIfInBounds_toArray, List.set_cons_zero, List.set_cons_succ]
                  refine wpAnyE_oneL (k := 12) (by kernel_rfl) rfl (fun K hK => ?_)
                  go_simp
                  go_at_call 58
                  refine (HIH.out (nets ++ [(k : Int)]) _ _ _ _ _ f w9 (HV.out.by hb9w) (HU.out.by hb9w) (HCX.out.by hb9w) (HCY.out.by hb9w) HF9.out (by omega) HGD.out (by rw [List.length_append, HML.out, List.length_singleton]; omega)).mono ?_
                  rintro e w10 ⟨v10, rfl, lo10, hlo10, hO10, hb10⟩
                  have HO10 := Lib.hid hO10
                  obtain ⟨ga, cM, rfl⟩ := hO10.sized
                  obtain ⟨M, hM⟩ : ∃ M, (srcB x y (colB cx cy) n one r (nets ++ [(k : Int)])).length = M := ⟨_, rfl⟩
                  rw [hM] at HO10 ⊢
                  have hMb : M ≤ 900000 := by rw [← hM, ← HGK.out]; exact (HBD.out k (by omega)).2
                  have HM := Lib.hid hM
                  have kA10 := Blk.by hb10 kA9
                  have kB10 := Blk.by hb10 kB9
                  have HOX := Lib.hid (HO9.out.by hb10)
                  have hb10w := below_on hb10 hb9w
                  have hs10 := hb10.size
                  clear hO10 hM hb10 HO9 HF9 kA1 kB1 kA9 kB9 hB9 hw9 hBT hNT hLT hS
                  refine hK.out _ _ (fun _ => ⟨kA10, kB10⟩) ?_
                  try simp only [Act.put, List.setIfInBounds_toArray, List.set_cons_zero, List.set_cons_succ]
                  refine wpAnyE_oneL (k := 13) (by kernel_rfl) rfl (fun K hK => ?_)
                  refine step_appP (by rfl) _ _ (by rfl) fb (w.heap.size + 2) hi g nO cO (srTo G one k) (srcB x y (colB cx cy) n one r (nets ++ [(k : Int)])) (by rfl) HOX.out HNO.out f lo10 w10.heap.size M (.slice ga M cM) (by rfl) HO10.out HM.out (by omega) (by omega) (by omega) (by omega) ?_
                  intro gg cc w11 hO11 hw11
                  have kA11 := hw11.blk kA10 (by omega)
                  have kB11 := hw11.blk kB10 (by omega)
                  have hb11w : Below w.heap.size w w11 := hw11.below hb10w (by omega)
                  have hs11 := hw11.size
                  have HO11 := Lib.hid hO11
                  refine hK.out _ _ (fun _ => ⟨kA11, kB11⟩) ?_
                  try simp only [Act.put, List.setIfInBounds_toArray, List.set_cons_zero, List.set_cons_succ]
                  refine wpAnyE_oneL (k := 14) (by kernel_rfl) rfl (fun K hK => ?_)
                  go_simp
                  refine hK.out _ _ (fun h => absurd rfl h) ?_
                  refine wpAnyE_done (by kernel_rfl) ?_ _
                  clear hO11 hw11 HOX HO10 kA10 kB10 hb10w
                  go_wp2
                  exact ⟨⟨k + 1, gg, nO + M, cc, w11.heap.size, by omega, by rfl, by go_num, Lib.hid (by rw [srTo_next HNS.out, HGK.out]; exact HO11.out), Lib.hid (by rw [srTo_next HNS.out, HGK.out, List.length_append, HNO.out, HM.out]), by omega, Nat.le_refl _, kA11, kB11, hb11w⟩, by simp [intOf]; omega⟩
theorem l30Search_any (x y : Nl) (cx cy : List Int) (one : Bool) (n : Nat) (hx : nlB x = true) (hy : nlB y = true) (hxy : y.nets = x.nets) (hpl : y.ps.length = x.ps.length) (hnn : x.nets = n) (hcx : cx.length = n) (hcy : cy.length = n) (hb7 : one = true ∨ n ≤ 7) : ∀ r, SeaOk x y cx cy one n r
  | 0 => sea_step x y cx cy one n hx hy hxy hpl hnn hcx hcy hb7 0 (fun q h => by omega)
  | r + 1 => sea_step x y cx cy one n hx hy hxy hpl hnn hcx hcy hb7 (r + 1) (fun q h => by
    obtain rfl : r = q := by omega
    exact l30Search_any x y cx cy one n hx hy hxy hpl hnn hcx hcy hb7 r)
theorem mayB_iff {x y : Nl} : mayB x y = true ↔ x.nets = y.nets ∧ x.ds.length = y.ds.length ∧ namD x.ps y.ps = -1 ∧ sizD x.ds y.ds = -1 ∧ colD (refNet x).1.1 (refNet y).1.1 = -1 ∧ colD (refNet x).1.2 (refNet y).1.2 = -1 := by
  unfold mayB
  simp only [Bool.and_eq_true, decide_eq_true_eq]
theorem fstNo_ge (f : Nat → Bool) (n : Nat) : -1 ≤ fstNo f n := by
  rcases fstNo_cases f n with ⟨h, _⟩ | ⟨k, _, h, _⟩ <;> omega
noncomputable def fstR (x y : Nl) : List Int × List Int := match cmpF x y with | some z => (z, cpS x y z) | none => ([], [])
theorem own_below {a w : World} (h : Below a.heap.size a w) : OwnPr w a.heap.size w.heap.size (.agg #[.slice none 0 0, .slice none 0 0]) ([], []) ∧ Below a.heap.size a w :=
  ⟨⟨_, _, a.heap.size, a.heap.size, a.heap.size, a.heap.size, rfl, .inl ⟨_, _, rfl, rfl⟩, .inl ⟨_, _, rfl, rfl⟩, ⟨Nat.le_refl _, h.size⟩, ⟨Nat.le_refl _, h.size⟩, .inl (Nat.le_refl _)⟩, h⟩
theorem fst_no {x y : Nl} (h : mayB x y = false) : (cmpF x y).isSome = false ∧ fstR x y = ([], []) := by
  have : cmpF x y = none := by unfold cmpF; rw [if_neg (by rw [h]; simp)]
  unfold fstR
  rw [this]
  exact ⟨rfl, rfl⟩
theorem srchS_eq {x y : Nl} (hx : nlB x = true) (hy : nlB y = true) (hn : y.nets = x.nets) (hpl : y.ps.length = x.ps.length) {n : Nat} (hnn : x.nets = n) : srcB x y (colB (refNet x).1.1 (refNet y).1.1) n true n [] = srchS x y true := by
  unfold srcB srchS
  rw [if_pos (fit_root hx hy hn hpl), show x.nets.toNat = n by omega]
theorem OwnR.offT {w : World} {lo hi T o : Nat} {cs : Array Value} {sv v : Value} {zs : List Int} (h : OwnR w lo hi sv zs) (hT : Blk w T cs 29) : OwnR (w.setCell ⟨T, o, none⟩ v) lo hi sv zs := by
  rcases h with h | ⟨g, cap, c2, h1, h2, h3, h4, h5, h6, h7⟩
  · exact .inl h
  · refine .inr ⟨g, cap, c2, h1, h2, h3, h4, h5, h6.apart T o v (fun e => ?_), h7⟩
    subst e
    have h8 : w.heap[g]? = some (.cells c2 2 (0, 0)) := h6
    rw [hT] at h8
    injection h8 with h8
    injection h8 with _ h8
    exact absurd h8 (by decide)
theorem OutL.first {w : World} {r lo hi : Nat} {v : Value} {zs : List Int} {ls : List (List Int)} (h : OutL w r lo hi v (zs :: ls)) : ∃ g cap cur f0 s0, v = .slice (some ⟨g, 0, none⟩) (ls.length + 1) cap ∧ Blk w g cur 27 ∧ cur[0]? = some s0 ∧ OwnR w f0 (f0 + 1) s0 zs ∧ lo ≤ g ∧ r ≤ f0 ∧ f0 < w.heap.size := by
  obtain ⟨hs, vs, f, ⟨hlen, h1⟩, h2, h3, h4⟩ := h
  rcases h1 with ⟨h1, hn⟩ | ⟨g, cap, cur, e1, e2, e3, e4, e5, e6, e7⟩
  · simp at hn
  · obtain ⟨s0, hs0⟩ : ∃ s, vs[0]? = some s := ⟨vs[0]'(by rw [h2]; simp), List.getElem?_eq_getElem (by rw [h2]; simp)⟩
    have h6 := hs0
    rw [← e7, List.getElem?_take_of_lt (by simp)] at h6
    exact ⟨g, cap, cur, f 0, s0, by simpa using e1, e3, by simpa using h6, (h4 0 zs s0 rfl hs0).1, e2, (h4 0 zs s0 rfl hs0).2.1⟩
set_option maxRecDepth 100000 in
set_option maxHeartbeats 8000000 in
theorem l30First_any (x y : Nl) (v u : Value) (w : World) (h : NlV w v x) (h' : NlV w u y) (hx : nlB x = true) (hy : nlB y = true) (hok : ∀ p ∈ x.ps, p.ok) (hfx : Fits x.nets) (hok' : ∀ p ∈ y.ps, p.ok) (hfy : Fits y.nets) :
    Calls Tryz.prog 37 #[v, u] w fun e w' => ∃ v', e = .returned (.tuple #[v', .bool (cmpF x y).isSome]) ∧ OwnPr w' w.heap.size w'.heap.size v' (fstR x y) ∧ Below w.heap.size w w' := by
  obtain ⟨⟨n0, n1⟩, hl, hp8, _, _⟩ := nlB_facts hx
  obtain ⟨_, hl', hp8', _, _⟩ := nlB_facts hy
  have HV := Lib.hid h
  have HU := Lib.hid h'
  have HNM := Lib.hid (fun v u w h h' => l30Names_any x y v u w h h' (by omega) (by omega))
  have HSZ := Lib.hid (fun hll v u w h h' => l30Sizes_any x y v u w h h' hl hll)
  have HRX := Lib.hid (fun v w h => specRefNet_any x v w h hok hfx)
  have HRY := Lib.hid (fun v w h => specRefNet_any y v w h hok' hfy)
  have HCL := Lib.hid (fun xs ys s1 s2 w h h' hl hl' => l30Color_any xs ys s1 s2 w h h' hl hl')
  have HLX := Lib.hid (ref_lens hx)
  have HLY := Lib.hid (ref_lens hy)
  have HXB := Lib.hid hx
  have HYB := Lib.hid hy
  obtain ⟨a1, c1, a2, c2, rfl⟩ := h.sized
  obtain ⟨b1, d1, b2, d2, rfl⟩ := h'.sized
  obtain ⟨nx, hnx⟩ : ∃ N, x.nets = N := ⟨_, rfl⟩
  obtain ⟨ny, hny⟩ : ∃ N, y.nets = N := ⟨_, rfl⟩
  obtain ⟨n, hn⟩ : ∃ N, x.ds.length = N := ⟨_, rfl⟩
  obtain ⟨n2, hn2⟩ : ∃ N, y.ds.length = N := ⟨_, rfl⟩
  obtain ⟨p, hp⟩ : ∃ N, x.ps.length = N := ⟨_, rfl⟩
  obtain ⟨p2, hp2⟩ : ∃ N, y.ps.length = N := ⟨_, rfl⟩
  obtain ⟨RB, hRB⟩ : ∃ R, (cmpF x y).isSome = R := ⟨_, rfl⟩
  obtain ⟨RR, hRR⟩ : ∃ R, fstR x y = R := ⟨_, rfl⟩
  rw [hRB, hRR]
  have HNO := Lib.hid (show mayB x y = false → RB = false ∧ RR = ([], []) from fun h => by rw [← hRB, ← hRR]; exact fst_no h)
  have HRB := Lib.hid hRB
  have HRR := Lib.hid hRR
  rw [hnx, hn, hp] at HV ⊢
  rw [hny, hn2, hp2] at HU ⊢
  have HE := Lib.hid (And.intro hnx (And.intro hny (And.intro hn (And.intro hn2 (And.intro hp hp2)))))
  have kA0 : Blk (((w.alloc (.cells #[.int .i64 nx, .slice a1 n c1, .slice a2 p c2] 35)).alloc (.cells #[.int .i64 ny, .slice b1 n2 d1, .slice b2 p2 d2] 35)).alloc (.cells #[.slice none 0 0, .slice none 0 0] 29)) w.heap.size #[.int .i64 nx, .slice a1 n c1, .slice a2 p c2] 35 := ((Blk.new _ rfl).past _).past _
  have kB0 : Blk (((w.alloc (.cells #[.int .i64 nx, .slice a1 n c1, .slice a2 p c2] 35)).alloc (.cells #[.int .i64 ny, .slice b1 n2 d1, .slice b2 p2 d2] 35)).alloc (.cells #[.slice none 0 0, .slice none 0 0] 29)) (w.heap.size + 1) #[.int .i64 ny, .slice b1 n2 d1, .slice b2 p2 d2] 35 := (Blk.new _ (by simp)).past _
  have kM0 : Blk (((w.alloc (.cells #[.int .i64 nx, .slice a1 n c1, .slice a2 p c2] 35)).alloc (.cells #[.int .i64 ny, .slice b1 n2 d1, .slice b2 p2 d2] 35)).alloc (.cells #[.slice none 0 0, .slice none 0 0] 29)) (w.heap.size + 2) #[.slice none 0 0, .slice none 0 0] 29 := Blk.new _ (by simp)
  have hb0 : Below w.heap.size w (((w.alloc (.cells #[.int .i64 nx, .slice a1 n c1, .slice a2 p c2] 35)).alloc (.cells #[.int .i64 ny, .slice b1 n2 d1, .slice b2 p2 d2] 35)).alloc (.cells #[.slice none 0 0, .slice none 0 0] 29)) := (((Below.refl _ w).alloc (Nat.le_refl _) _).alloc (by simp) _).alloc (by simp; omega) _
  clear h h' hok hok' hfx hfy hx hy hnx hny hn hn2 hp hp2 hRB hRR
  have qA := kA0.cell
  have qB := kB0.cell
  have lA := kA0.lt
  have lB := kB0.lt
  go_enter Tryz.func37, Tryz.ntmps37
  by_cases hnn : nx = ny
  · by_cases hll : n = n2
    · have e1 : (nx != ny) = false := by simpa using hnn
      have e2 : (nx == ny) = true := by simpa using hnn
      have e3 : ((n : Int) != (n2 : Int)) = false := by simp; omega
      have e4 : ((n : Int) == (n2 : Int)) = true := by simp; omega
      have HNN := Lib.hid hnn
      have HLL := Lib.hid hll
      clear hnn hll
      go_wp2_with fail
      generalize (((w.alloc (.cells #[.int .i64 nx, .slice a1 n c1, .slice a2 p c2] 35)).alloc (.cells #[.int .i64 ny, .slice b1 n2 d1, .slice b2 p2 d2] 35)).alloc (.cells #[.slice none 0 0, .slice none 0 0] 29)) = w1 at *
      refine (HNM.out _ _ _ (HV.out.by hb0) (HU.out.by hb0)).mono ?_
      rintro e w2 ⟨rfl, hb2⟩
      have kA2 := Blk.by hb2 kA0
      have kB2 := Blk.by hb2 kB0
      have kM2 := Blk.by hb2 kM0
      have hb2w := below_on hb2 hb0
      obtain ⟨D1, hD1⟩ : ∃ D, namD x.ps y.ps = D := ⟨_, rfl⟩
      have hg1 : -1 ≤ D1 := by rw [← hD1]; exact fstNo_ge _ _
      rw [hD1]
      have HD1 := Lib.hid hD1
      clear hb2 kA0 kB0 kM0 hb0 hD1 qA qB lA lB
      have qA := kA2.cell
      have qB := kB2.cell
      have lA := kA2.lt
      have lB := kB2.lt
      by_cases h1 : D1 = -1
      · subst h1
        have f1 : decide ((0 : Int) ≤ -1) = false := by decide
        go_wp2_with fail
        refine (HSZ.out (by have := HE.out; have := HLL.out; omega) _ _ _ (HV.out.by hb2w) (HU.out.by hb2w)).mono ?_
        rintro e w3 ⟨rfl, hb3⟩
        have kA3 := Blk.by hb3 kA2
        have kB3 := Blk.by hb3 kB2
        have kM3 := Blk.by hb3 kM2
        have hb3w := below_on hb3 hb2w
        obtain ⟨D2, hD2⟩ : ∃ D, sizD x.ds y.ds = D := ⟨_, rfl⟩
        have hg2 : -1 ≤ D2 := by rw [← hD2]; exact fstNo_ge _ _
        rw [hD2]
        have HD2 := Lib.hid hD2
        clear hb3 kA2 kB2 kM2 hb2w hD2 qA qB lA lB
        have qA := kA3.cell
        have qB := kB3.cell
        have lA := kA3.lt
        have lB := kB3.lt
        by_cases h2 : D2 = -1
        · subst h2
          go_wp2_with fail
          refine (HRX.out _ _ (HV.out.by hb3w)).mono ?_
          rintro e w4 ⟨v4, rfl, hO4, hb4⟩
          have hP1 := HLX.out.1
          have hQ1 := HLX.out.2
          obtain ⟨g1, h1', g2, h2', rfl⟩ := hO4.co.sized
          have HC4 := Lib.hid hO4.co
          obtain ⟨P1, hP⟩ : ∃ P, (refNet x).1.1.length = P := ⟨_, rfl⟩
          obtain ⟨Q1, hQ⟩ : ∃ P, (refNet x).1.2.length = P := ⟨_, rfl⟩
          rw [hP, hQ] at HC4 ⊢
          have HP1 := Lib.hid hP
          have HQ1 := Lib.hid hQ
          have hal : Below w4.heap.size w4 (w4.alloc (.cells #[.slice g1 P1 h1', .slice g2 Q1 h2'] 81)) := (Below.refl _ w4).alloc (Nat.le_refl _) _
          have kX5 : Blk (w4.alloc (.cells #[.slice g1 P1 h1', .slice g2 Q1 h2'] 81)) w4.heap.size #[.slice g1 P1 h1', .slice g2 Q1 h2'] 81 := Blk.new _ rfl
          have kA5 := Blk.by hal (Blk.by hb4 kA3)
          have kB5 := Blk.by hal (Blk.by hb4 kB3)
          have kM5 := Blk.by hal (Blk.by hb4 kM3)
          have HC5 := Lib.hid (HC4.out.by hal)
          have hb5 := below_on hal (below_on hb4 hb3w)
          clear hal hb4 hO4 HC4 hP hQ kA3 kB3 kM3 hb3w qA qB lA lB hP1 hQ1
          have qB := kB5.cell
          have lB := kB5.lt
          go_wp2_with fail
          generalize w4.alloc (.cells #[.slice g1 P1 h1', .slice g2 Q1 h2'] 81) = w5 at *
          generalize w4.heap.size = X at *
          refine (HRY.out _ _ (HU.out.by hb5)).mono ?_
          rintro e w6 ⟨v6, rfl, hO6, hb6⟩
          obtain ⟨g3, h3', g4, h4', rfl⟩ := hO6.co.sized
          have HC6 := Lib.hid hO6.co
          obtain ⟨P2, hP⟩ : ∃ P, (refNet y).1.1.length = P := ⟨_, rfl⟩
          obtain ⟨Q2, hQ⟩ : ∃ P, (refNet y).1.2.length = P := ⟨_, rfl⟩
          rw [hP, hQ] at HC6 ⊢
          have HP2 := Lib.hid hP
          have HQ2 := Lib.hid hQ
          have hal : Below w6.heap.size w6 (w6.alloc (.cells #[.slice g3 P2 h3', .slice g4 Q2 h4'] 81)) := (Below.refl _ w6).alloc (Nat.le_refl _) _
          have kY7 : Blk (w6.alloc (.cells #[.slice g3 P2 h3', .slice g4 Q2 h4'] 81)) w6.heap.size #[.slice g3 P2 h3', .slice g4 Q2 h4'] 81 := Blk.new _ rfl
          have kX7 := Blk.by hal (Blk.by hb6 kX5)
          have kA7 := Blk.by hal (Blk.by hb6 kA5)
          have kB7 := Blk.by hal (Blk.by hb6 kB5)
          have kM7 := Blk.by hal (Blk.by hb6 kM5)
          have HC7 := Lib.hid ((HC5.out.by hb6).by hal)
          have HY7 := Lib.hid (HC6.out.by hal)
          have hb7 := below_on hal (below_on hb6 hb5)
          clear hal hb6 hO6 HC5 HC6 hP hQ kA5 kB5 kM5 kX5 hb5 qB lB
          have qX := kX7.cell
          have lX := kX7.lt
          have qY := kY7.cell
          have lY := kY7.lt
          obtain ⟨_, _, ec, m1, m2⟩ := HC7.out
          obtain ⟨_, _, ed, o1, o2⟩ := HY7.out
          simp only [Value.agg.injEq, Array.mk.injEq, List.cons.injEq, and_true] at ec ed
          obtain ⟨rfl, rfl⟩ := ec
          obtain ⟨rfl, rfl⟩ := ed
          have hlen : P1 ≤ 24 ∧ P2 ≤ 24 ∧ Q1 ≤ 24 ∧ Q2 ≤ 24 := by
            have a1 := HLX.out
            have a2 := HLY.out
            have a3 := (nlB_facts HXB.out)
            have a4 := (nlB_facts HYB.out)
            rw [HP1.out, HQ1.out] at a1
            rw [HP2.out, HQ2.out] at a2
            omega
          go_wp2_with fail
          generalize w6.alloc (.cells #[.slice g3 P2 h3', .slice g4 Q2 h4'] 81) = w7 at *
          generalize w6.heap.size = Y at *
          refine (HCL.out _ _ _ _ _ m1 o1 (by rw [HP1.out]; omega) (by rw [HP2.out]; omega)).mono ?_
          rintro e w8 ⟨rfl, rfl⟩
          obtain ⟨D3, hD3⟩ : ∃ D, colD (refNet x).1.1 (refNet y).1.1 = D := ⟨_, rfl⟩
          have hg3 : -1 ≤ D3 := by rw [← hD3]; exact fstNo_ge _ _
          rw [hD3]
          have HD3 := Lib.hid hD3
          clear hD3
          by_cases h3 : D3 = -1
          · subst h3
            go_wp2_with fail
            refine (HCL.out _ _ _ _ _ m2 o2 (by rw [HQ1.out]; omega) (by rw [HQ2.out]; omega)).mono ?_
            rintro e w8 ⟨rfl, rfl⟩
            obtain ⟨D4, hD4⟩ : ∃ D, colD (refNet x).1.2 (refNet y).1.2 = D := ⟨_, rfl⟩
            have hg4 : -1 ≤ D4 := by rw [← hD4]; exact fstNo_ge _ _
            rw [hD4]
            have HD4 := Lib.hid hD4
            clear hD4
            by_cases h4 : D4 = -1
            · subst h4
              have hmay : mayB x y = true := mayB_iff.2 ⟨by rw [HE.out.1, HE.out.2.1]; exact HNN.out, by rw [HE.out.2.2.1, HE.out.2.2.2.1]; exact HLL.out, HD1.out, HD2.out, HD3.out, HD4.out⟩
              have hnm := namD_no HD1.out
              have hxy : y.nets = x.nets := by rw [HE.out.1, HE.out.2.1]; exact HNN.out.symm
              have hyl : y.ds.length = x.ds.length := by rw [HE.out.2.2.1, HE.out.2.2.2.1]; exact HLL.out.symm
              obtain ⟨N, hN⟩ : ∃ N : Nat, x.nets = N := ⟨x.nets.toNat, by have := (nlB_facts HXB.out).1; omega⟩
              have hP1N : (refNet x).1.1.length = N := by have := HLX.out.1; omega
              have hP2N : (refNet y).1.1.length = N := by have := HLY.out.1; omega
              have HSE := Lib.hid (l30Search_any x y (refNet x).1.1 (refNet y).1.1 true N HXB.out HYB.out hxy hnm.1 hN hP1N hP2N (.inl rfl) N)
              have hsr := srchS_eq (n := N) HXB.out HYB.out hxy hnm.1 hN
              have hcf : cmpF x y = (srchS x y true).head? := by unfold cmpF; rw [if_pos hmay]
              have HCF := Lib.hid hcf
              have HISO := Lib.hid (fun z hz => srchS_iso HXB.out HYB.out hxy hyl hnm.1 hnm.2 (one := true) (z := z) hz)
              have HXN := Lib.hid hN
              have qA := kA7.cell
              have lA := kA7.lt
              have qB := kB7.cell
              have lB := kB7.lt
              have HM1 := Lib.hid m1
              have HO1 := Lib.hid o1
              have hs7 := hb7.size
              clear hmay hnm hxy hN hP1N hP2N hcf m1 m2 o1 o2
              go_wp2_with fail
              have hal : Below w7.heap.size w7 (w7.alloc (.cells #[] 2)) := (Below.refl _ w7).alloc (Nat.le_refl _) _
              refine (HSE.out [] _ _ _ _ _ w.heap.size _ ((HV.out.by hb7).by hal) ((HU.out.by hb7).by hal) (HM1.out.by hal) (HO1.out.by hal) (.inl ⟨_, _, rfl, rfl⟩) (by simp; omega) ⟨by simp, by simp⟩ (by simp)).mono ?_
              rintro e w9 ⟨v9, rfl, lo9, hlo9, hO9, hb9⟩
              rw [hsr] at hO9
              have hb9' : Below w7.heap.size w7 w9 := below_on hb9 hal
              have kA9 := Blk.by hb9' kA7
              have kB9 := Blk.by hb9' kB7
              have kM9 := Blk.by hb9' kM7
              have hb9w := below_on hb9' hb7
              have hMl := kM7.lt
              have hsw9 : w7.heap.size < lo9 := by simp at hlo9; omega
              clear hal hb9 hb9' hsr qA lA qB lB qX lX qY lY kX7 kY7 kA7 kB7 kM7 HC7 HY7
              cases hss : srchS x y true with
              | nil =>
                rw [hss] at hO9
                obtain ⟨ga, cM, rfl⟩ := hO9.sized
                have hnone : cmpF x y = none := by rw [HCF.out, hss]; rfl
                obtain rfl : RB = false := by rw [← HRB.out, hnone]; rfl
                obtain rfl : RR = ([], []) := by rw [← HRR.out]; unfold fstR; rw [hnone]
                have qM := kM9.cell
                have fM := kM9.free
                have lM := kM9.lt
                clear hss hnone hO9
                go_wp2
                exact bodyPost_ret (v := .tuple #[.agg #[.slice none 0 0, .slice none 0 0], .bool false]) (by simp [results, Tryz.results37, go_sem, *]) rfl ⟨_, rfl, own_below ((hb9w.setCell (show w.heap.size ≤ w.heap.size + 2 by omega) _).setCell (show w.heap.size ≤ w.heap.size + 2 by omega) _)⟩
              | cons z ls =>
                rw [hss] at hO9
                have hsome : cmpF x y = some z := by rw [HCF.out, hss]; rfl
                obtain ⟨zg, zl, _, hiso⟩ := HISO.out z (by rw [hss]; simp)
                have hperm := hiso.perm HXB.out HYB.out
                obtain rfl : RB = true := by rw [← HRB.out, hsome]; rfl
                obtain ⟨CP, hCP⟩ : ∃ C, cpS x y z = C := ⟨_, rfl⟩
                obtain rfl : RR = (z, CP) := by rw [← HRR.out, ← hCP]; unfold fstR; rw [hsome]
                have HCP := Lib.hid hCP
                clear hCP
                obtain ⟨gb, cM, cur, f0, s0, rfl, kG9, hc0, hR9, hgb, hf01, hf02⟩ := hO9.first
                obtain ⟨ls1, hls⟩ : ∃ l, ls.length + 1 = l := ⟨_, rfl⟩
                have hls1 : (0 : Int) < (ls1 : Int) := by omega
                have hls0 : 0 < ls1 := by omega
                have hlsd : decide (0 < ls1) = true := decide_eq_true hls0
                have e9 : ((ls1 : Int) == 0) = false := by simp; omega
                rw [hls]
                obtain ⟨za, zc, rfl⟩ := hR9.sl.len
                have HR9 := Lib.hid hR9
                have HDV := Lib.hid (fun v u sz w h h' hz => l30Devices_any x y z v u sz w h h' hz HXB.out HYB.out hyl (by rw [zl]; have := (nlB_facts HXB.out).1; omega) hperm)
                have hsl9 := hb9w.size
                clear hss hsome zg zl hiso hperm hO9 hR9 hls HCF HISO HSE hyl HRB HRR
                go_upto_region 10 with fail
                have hS : (fun w' : World => Blk w' w.heap.size #[.int .i64 nx, .slice a1 n c1, .slice a2 p c2] 35 ∧ Blk w' (w.heap.size + 1) #[.int .i64 ny, .slice b1 n2 d1, .slice b2 p2 d2] 35 ∧ Blk w' gb cur 27) { w9 with drawn := w9.drawn + 1 } := ⟨kA9.drew, kB9.drew, kG9.drew⟩
                refine wp_region_any (by kernel_rfl) (wpAny_of_E (S := (fun w' : World => Blk w' w.heap.size #[.int .i64 nx, .slice a1 n c1, .slice a2 p c2] 35 ∧ Blk w' (w.heap.size + 1) #[.int .i64 ny, .slice b1 n2 d1, .slice b2 p2 d2] 35 ∧ Blk w' gb cur 27)) (l := 11) _ _ _ _ ?_)
                change wpAnyE _ _ _ _ _ _ _ _ _ w9.drew
                refine wpAnyE_takeL (i := 0) (v := ?_) rfl (by kernel_rfl) (fun _ _ _ h => h) (Or.inl ⟨by rfl, ?_⟩) hS ?_
                rotate_left
                · intro w hSw; (try dsimp only at hSw); have qA := hSw.1.cell; have qB := hSw.2.1.cell; have lA := hSw.1.lt; have lB := hSw.2.1.lt; have qG := (hSw.2.2.cell 0).trans hc0; have lG := hSw.2.2.lt; clear hSw; go_simp; (try with_reducible rfl)
                try simp only [Act.put, List.setIfInBounds_toArray, List.set_cons_zero, List.set_cons_succ]
                refine wpAnyE_takeL (i := 1) (v := ?_) rfl (by kernel_rfl) (fun _ _ _ h => h) (Or.inl ⟨by rfl, ?_⟩) hS ?_
                rotate_left
                · intro w hSw; (try dsimp only at hSw); have qA := hSw.1.cell; have qB := hSw.2.1.cell; have lA := hSw.1.lt; have lB := hSw.2.1.lt; have qG := (hSw.2.2.cell 0).trans hc0; have lG := hSw.2.2.lt; clear hSw; go_simp; (try with_reducible rfl)
                try simp only [Act.put, List.setIfInBounds_toArray, List.set_cons_zero, List.set_cons_succ]
                refine wpAnyE_takeL (i := 2) (v := ?_) rfl (by kernel_rfl) (fun _ _ _ h => h) (Or.inl ⟨by rfl, ?_⟩) hS ?_
                rotate_left
                · intro w hSw; (try dsimp only at hSw); have qA := hSw.1.cell; have qB := hSw.2.1.cell; have lA := hSw.1.lt; have lB := hSw.2.1.lt; have qG := (hSw.2.2.cell 0).trans hc0; have lG := hSw.2.2.lt; clear hSw; go_simp; (try with_reducible rfl)
                try simp only [Act.put, List.setIfInBounds_toArray, List.set_cons_zero, List.set_cons_succ]
                refine wpAnyE_takeL (i := 3) (v := ?_) rfl (by kernel_rfl) (fun _ _ _ h => h) (Or.inl ⟨by rfl, ?_⟩) hS ?_
                rotate_left
                · intro w hSw; (try dsimp only at hSw); have qA := hSw.1.cell; have qB := hSw.2.1.cell; have lA := hSw.1.lt; have lB := hSw.2.1.lt; have qG := (hSw.2.2.cell 0).trans hc0; have lG := hSw.2.2.lt; clear hSw; go_simp; (try with_reducible rfl)
                try simp only [Act.put, List.setIfInBounds_toArray, List.set_cons_zero, List.set_cons_succ]
                refine wpAnyE_takeL (i := 4) (v := ?_) rfl (by kernel_rfl) (fun _ _ _ h => h) (Or.inl ⟨by rfl, ?_⟩) hS ?_
                rotate_left
                · intro w hSw; (try dsimp only at hSw); have qA := hSw.1.cell; have qB := hSw.2.1.cell; have lA := hSw.1.lt; have lB := hSw.2.1.lt; have qG := (hSw.2.2.cell 0).trans hc0; have lG := hSw.2.2.lt; clear hSw; go_simp; (try with_reducible rfl)
                try simp only [Act.put, List.setIfInBounds_toArray, List.set_cons_zero, List.set_cons_succ]
                refine wpAnyE_takeL (i := 5) (v := ?_) rfl (by kernel_rfl) (fun _ _ _ h => h) (Or.inl ⟨by rfl, ?_⟩) hS ?_
                rotate_left
                · intro w hSw; (try dsimp only at hSw); have qA := hSw.1.cell; have qB := hSw.2.1.cell; have lA := hSw.1.lt; have lB := hSw.2.1.lt; have qG := (hSw.2.2.cell 0).trans hc0; have lG := hSw.2.2.lt; clear hSw; go_simp; (try with_reducible rfl)
                try simp only [Act.put, List.setIfInBounds_toArray, List.set_cons_zero, List.set_cons_succ]
                refine wpAnyE_takeL (i := 6) (v := ?_) rfl (by kernel_rfl) (fun _ _ _ h => h) (Or.inl ⟨by rfl, ?_⟩) hS ?_
                rotate_left
                · intro w hSw; (try dsimp only at hSw); have qA := hSw.1.cell; have qB := hSw.2.1.cell; have lA := hSw.1.lt; have lB := hSw.2.1.lt; have qG := (hSw.2.2.cell 0).trans hc0; have lG := hSw.2.2.lt; clear hSw; go_simp; (try with_reducible rfl)
                try simp only [Act.put, List.setIfInBounds_toArray, List.set_cons_zero, List.set_cons_succ]
                refine wpAnyE_takeL (i := 7) (v := ?_) rfl (by kernel_rfl) (fun _ _ _ h => h) (Or.inl ⟨by rfl, ?_⟩) hS ?_
                rotate_left
                · intro w hSw; (try dsimp only at hSw); have qA := hSw.1.cell; have qB := hSw.2.1.cell; have lA := hSw.1.lt; have lB := hSw.2.1.lt; have qG := (hSw.2.2.cell 0).trans hc0; have lG := hSw.2.2.lt; clear hSw; go_simp; (try with_reducible rfl)
                try simp only [Act.put, List.setIfInBounds_toArray, List.set_cons_zero, List.set_cons_succ]
                clear hS
                refine wpAnyE_oneL (k := 8) (by kernel_rfl) rfl (fun K hK => ?_)
                go_simp
                go_at_call 84
                refine (HDV.out _ _ _ _ ((HV.out.by hb9w).by (below_of_drewN w9 1)) ((HU.out.by hb9w).by (below_of_drewN w9 1)) (HR9.out.sl.by (below_of_drewN w9 1))).mono ?_
                rintro e w10 ⟨v10, rfl, hO10, hb10⟩
                have hb10' : Below w9.heap.size w9 w10 := below_on hb10 (below_of_drewN w9 1)
                have kA10 := Blk.by hb10' kA9
                have kB10 := Blk.by hb10' kB9
                have kG10 := Blk.by hb10' kG9
                have kM10 := Blk.by hb10' kM9
                have hb10w := below_on hb10' hb9w
                rw [HCP.out] at hO10
                obtain ⟨da, dc, rfl⟩ := hO10.sl.len
                have hRz := OwnR.by hb10' HR9.out
                have hs10 := hb10'.size
                have HMV := Lib.hid (show OwnPr ((w10.setCell ⟨w.heap.size + 2, 0, none⟩ (.slice za z.length zc)).setCell ⟨w.heap.size + 2, 1, none⟩ (.slice da CP.length dc)) w.heap.size ((w10.setCell ⟨w.heap.size + 2, 0, none⟩ (.slice za z.length zc)).setCell ⟨w.heap.size + 2, 1, none⟩ (.slice da CP.length dc)).heap.size (.agg #[.slice za z.length zc, .slice da CP.length dc]) (z, CP) from
                  ⟨_, _, f0, f0 + 1, w9.heap.size, w10.heap.size, rfl, OwnR.offT (OwnR.offT hRz kM10) (kM10.set _ _), OwnR.offT (OwnR.offT hO10 kM10) (kM10.set _ _), ⟨hf01, by simp; omega⟩, ⟨by omega, by simp⟩, .inl (by omega)⟩)
                have hbF : Below w.heap.size w ((w10.setCell ⟨w.heap.size + 2, 0, none⟩ (.slice za z.length zc)).setCell ⟨w.heap.size + 2, 1, none⟩ (.slice da CP.length dc)) := (hb10w.setCell (show w.heap.size ≤ w.heap.size + 2 by omega) _).setCell (show w.heap.size ≤ w.heap.size + 2 by omega) _
                have qM := kM10.cell
                have fM := kM10.free
                have lM := kM10.lt
                clear hb10 hb10' hO10 hRz HR9 kA9 kB9 kG9 kM9 hb9w
                refine hK.out _ _ (fun _ => ⟨kA10, kB10, kG10⟩) ?_
                try simp only [Act.put, List.setIfInBounds_toArray, List.set_cons_zero, List.set_cons_succ]
                refine wpAnyE_oneL (k := 9) (by kernel_rfl) rfl (fun K hK => ?_)
                go_simp
                refine hK.out _ _ (fun _ => ⟨kA10, kB10, kG10⟩) ?_
                try simp only [Act.put, List.setIfInBounds_toArray, List.set_cons_zero, List.set_cons_succ]
                refine wpAnyE_oneL (k := 10) (by kernel_rfl) rfl (fun K hK => ?_)
                go_simp
                refine hK.out _ _ (fun _ => ⟨(kA10.apart _ _ _ (by omega)).apart _ _ _ (by omega), (kB10.apart _ _ _ (by omega)).apart _ _ _ (by omega), (kG10.apart _ _ _ (by omega)).apart _ _ _ (by omega)⟩) ?_
                try simp only [Act.put, List.setIfInBounds_toArray, List.set_cons_zero, List.set_cons_succ]
                refine wpAnyE_oneL (k := 11) (by kernel_rfl) rfl (fun K hK => ?_)
                go_simp
                refine hK.out _ _ (fun h => absurd rfl h) ?_
                refine wpAnyE_done (by kernel_rfl) ?_ _
                go_wp2
                exact bodyPost_ret (v := .tuple #[.agg #[.slice za z.length zc, .slice da CP.length dc], .bool true]) (by simp [results, Tryz.results37, go_sem, *]) rfl ⟨_, rfl, HMV.out, hbF⟩
            · have f2 : ¬ D4 < 0 := by omega
              have f3 : (0 : Int) ≤ D4 := by omega
              have f4 : decide ((0 : Int) ≤ D4) = true := decide_eq_true f3
              obtain ⟨rfl, rfl⟩ := HNO.out (Bool.eq_false_iff.2 (fun hm => absurd ((mayB_iff (x := x) (y := y)).1 hm).2.2.2.2.2 (by rw [HD4.out]; exact h4)))
              have qM := kM7.cell
              have fM := kM7.free
              have lM := kM7.lt
              go_wp2
              exact bodyPost_ret (v := .tuple #[.agg #[.slice none 0 0, .slice none 0 0], .bool false]) (by simp [results, Tryz.results37, go_sem, *]) rfl ⟨_, rfl, own_below ((hb7.setCell (show w.heap.size ≤ w.heap.size + 2 by omega) _).setCell (show w.heap.size ≤ w.heap.size + 2 by omega) _)⟩
          · have f2 : ¬ D3 < 0 := by omega
            have f3 : (0 : Int) ≤ D3 := by omega
            have f4 : decide ((0 : Int) ≤ D3) = true := decide_eq_true f3
            obtain ⟨rfl, rfl⟩ := HNO.out (Bool.eq_false_iff.2 (fun hm => absurd ((mayB_iff (x := x) (y := y)).1 hm).2.2.2.2.1 (by rw [HD3.out]; exact h3)))
            have qM := kM7.cell
            have fM := kM7.free
            have lM := kM7.lt
            go_wp2
            exact bodyPost_ret (v := .tuple #[.agg #[.slice none 0 0, .slice none 0 0], .bool false]) (by simp [results, Tryz.results37, go_sem, *]) rfl ⟨_, rfl, own_below ((hb7.setCell (show w.heap.size ≤ w.heap.size + 2 by omega) _).setCell (show w.heap.size ≤ w.heap.size + 2 by omega) _)⟩
        · have f2 : ¬ D2 < 0 := by omega
          have f3 : (0 : Int) ≤ D2 := by omega
          have f4 : decide ((0 : Int) ≤ D2) = true := decide_eq_true f3
          obtain ⟨rfl, rfl⟩ := HNO.out (Bool.eq_false_iff.2 (fun hm => absurd ((mayB_iff (x := x) (y := y)).1 hm).2.2.2.1 (by rw [HD2.out]; exact h2)))
          have qM := kM3.cell
          have fM := kM3.free
          have lM := kM3.lt
          go_wp2
          exact bodyPost_ret (v := .tuple #[.agg #[.slice none 0 0, .slice none 0 0], .bool false]) (by simp [results, Tryz.results37, go_sem, *]) rfl ⟨_, rfl, own_below ((hb3w.setCell (show w.heap.size ≤ w.heap.size + 2 by omega) _).setCell (show w.heap.size ≤ w.heap.size + 2 by omega) _)⟩
      · have f2 : ¬ D1 < 0 := by omega
        have f3 : (0 : Int) ≤ D1 := by omega
        have f4 : decide ((0 : Int) ≤ D1) = true := decide_eq_true f3
        obtain ⟨rfl, rfl⟩ := HNO.out (Bool.eq_false_iff.2 (fun hm => absurd ((mayB_iff (x := x) (y := y)).1 hm).2.2.1 (by rw [HD1.out]; exact h1)))
        have qM := kM2.cell
        have fM := kM2.free
        have lM := kM2.lt
        go_wp2
        exact bodyPost_ret (v := .tuple #[.agg #[.slice none 0 0, .slice none 0 0], .bool false]) (by simp [results, Tryz.results37, go_sem, *]) rfl ⟨_, rfl, own_below ((hb2w.setCell (show w.heap.size ≤ w.heap.size + 2 by omega) _).setCell (show w.heap.size ≤ w.heap.size + 2 by omega) _)⟩
    · have e1 : (nx != ny) = false := by simpa using hnn
      have e2 : (nx == ny) = true := by simpa using hnn
      have e3 : ((n : Int) != (n2 : Int)) = true := by simp; omega
      have e4 : ((n : Int) == (n2 : Int)) = false := by simp; omega
      clear hnn
      obtain ⟨rfl, rfl⟩ := HNO.out (Bool.eq_false_iff.2 (fun hm => absurd ((mayB_iff (x := x) (y := y)).1 hm).2.1 (by rw [HE.out.2.2.1, HE.out.2.2.2.1]; exact hll)))
      have qM := kM0.cell
      have fM := kM0.free
      have lM := kM0.lt
      go_wp2
      exact bodyPost_ret (v := .tuple #[.agg #[.slice none 0 0, .slice none 0 0], .bool false]) (by simp [results, Tryz.results37, go_sem, *]) rfl ⟨_, rfl, own_below (hb0)⟩
  · have e1 : (nx != ny) = true := by simpa using hnn
    have e2 : (nx == ny) = false := by simpa using hnn
    obtain ⟨rfl, rfl⟩ := HNO.out (Bool.eq_false_iff.2 (fun hm => absurd ((mayB_iff (x := x) (y := y)).1 hm).1 (by rw [HE.out.1, HE.out.2.1]; exact hnn)))
    have qM := kM0.cell
    have fM := kM0.free
    have lM := kM0.lt
    go_wp2
    exact bodyPost_ret (v := .tuple #[.agg #[.slice none 0 0, .slice none 0 0], .bool false]) (by simp [results, Tryz.results37, go_sem, *]) rfl ⟨_, rfl, own_below (hb0)⟩
set_option maxRecDepth 100000 in
set_option maxHeartbeats 4000000 in
theorem l30Small_any (x : Nl) (v : Value) (w : World) (h : NlV w v x) :
    Calls Tryz.prog 36 #[v] w fun e w' => e = .returned (.bool (smlB x)) ∧ Below w.heap.size w w' := by
  obtain ⟨a1, c1, a2, c2, rfl⟩ := h.sized
  clear h
  unfold smlB
  obtain ⟨nx, hnx⟩ : ∃ N, x.nets = N := ⟨_, rfl⟩
  obtain ⟨n, hn⟩ : ∃ N, x.ds.length = N := ⟨_, rfl⟩
  obtain ⟨p, hp⟩ : ∃ N, x.ps.length = N := ⟨_, rfl⟩
  rw [hnx, hn, hp]
  clear hnx hn hp
  go_enter Tryz.func36, Tryz.ntmps36
  by_cases h1 : nx ≤ 10
  · have e1 : decide (nx ≤ 10) = true := decide_eq_true h1
    rw [e1, Bool.true_and]
    by_cases h2 : n ≤ 10
    · have e2 : decide (n ≤ 10) = true := decide_eq_true h2
      have e3 : (n : Int) ≤ 10 := by omega
      rw [e2]
      go_wp2
      go_ret
      exact ⟨rfl, blwT⟩
    · have e2 : decide (n ≤ 10) = false := decide_eq_false h2
      have e3 : ¬ (n : Int) ≤ 10 := by omega
      rw [e2]
      go_wp2
      go_ret
      exact ⟨rfl, blwT⟩
  · have e1 : decide (nx ≤ 10) = false := decide_eq_false h1
    rw [e1, Bool.false_and]
    go_wp2
    go_ret
    exact ⟨rfl, blwT⟩
theorem cmp_inv {x y : Nl} (h : (nlB x && nlB y) = false) : cmpC x y = 1 ∧ cmpR x y = ([], []) := by
  unfold cmpC cmpR
  rw [if_neg (by rw [h]; simp), if_neg (by rw [h]; simp)]
  exact ⟨rfl, rfl⟩
theorem cmp_big {x y : Nl} (h : (nlB x && nlB y) = true) (h2 : (smlB x && smlB y) = false) : cmpC x y = 3 ∧ cmpR x y = ([], []) := by
  unfold cmpC cmpR
  rw [if_pos h, if_pos h, if_neg (by rw [h2]; simp), if_neg (by rw [h2]; simp)]
  exact ⟨rfl, rfl⟩
theorem cmp_ok {x y : Nl} (h : (nlB x && nlB y) = true) (h2 : (smlB x && smlB y) = true) : cmpC x y = (if (cmpF x y).isSome = true then 0 else 5) ∧ cmpR x y = fstR x y := by
  unfold cmpC cmpR fstR
  rw [if_pos h, if_pos h, if_pos h2, if_pos h2]
  cases cmpF x y <;> exact ⟨rfl, rfl⟩
theorem ownPr_nil0 (w : World) (lo hi : Nat) (h : lo ≤ hi) : OwnPr w lo hi (.agg #[.slice none 0 0, .slice none 0 0]) ([], []) :=
  ⟨_, _, lo, lo, lo, lo, rfl, .inl ⟨_, _, rfl, rfl⟩, .inl ⟨_, _, rfl, rfl⟩, by omega, by omega, .inl (Nat.le_refl _)⟩
def CmpYd (A B O F B0 : Nat) (cA cB : Array Value) (x y : Nl) (zs : List (List Int)) (w : World) : Prop := Blk w A cA 35 ∧ Blk w B cB 35 ∧
  ((zs = [] ∧ Blk w O #[.slice none 0 0, .slice none 0 0] 29 ∧ Blk w F #[.bool false] 4) ∨ (∃ z r, zs = z :: r ∧ ∃ s1 s2 lo m, Blk w O #[s1, s2] 29 ∧ Blk w F #[.bool true] 4 ∧ B0 ≤ lo ∧ OwnR w lo m s1 z ∧ OwnR w m w.heap.size s2 (cpS x y z) ∧ lo ≤ m ∧ m ≤ w.heap.size))
set_option maxRecDepth 100000 in
set_option maxHeartbeats 4000000 in
theorem implCmpNl_any (x y : Nl) (v u : Value) (w : World) (h : NlV w v x) (h' : NlV w u y) (hok : ∀ p ∈ x.ps, p.ok) (hfx : Fits x.nets) (hok' : ∀ p ∈ y.ps, p.ok) (hfy : Fits y.nets) :
    Calls Tryz.prog 13 #[v, u] w fun e w' => ∃ v', e = .returned (.tuple #[v', .int .i64 (cmpC x y)]) ∧ OwnPr w' w.heap.size w'.heap.size v' (cmpR x y) ∧ Below w.heap.size w w' := by
  have HV := Lib.hid h
  have HU := Lib.hid h'
  have HVX := Lib.hid (fun v w h => implNl_any x v w h hok hfx)
  have HVY := Lib.hid (fun v w h => implNl_any y v w h hok' hfy)
  have HSX := Lib.hid (fun v w h => tooGreat_any x v w h)
  have HSY := Lib.hid (fun v w h => tooGreat_any y v w h)
  obtain ⟨a1, c1, a2, c2, rfl⟩ := h.sized
  obtain ⟨b1, d1, b2, d2, rfl⟩ := h'.sized
  obtain ⟨C, hC⟩ : ∃ C, cmpC x y = C := ⟨_, rfl⟩
  obtain ⟨R, hR⟩ : ∃ R, cmpR x y = R := ⟨_, rfl⟩
  rw [hC, hR]
  have HC := Lib.hid hC
  have HR := Lib.hid hR
  obtain ⟨nx, hnx⟩ : ∃ N, x.nets = N := ⟨_, rfl⟩
  obtain ⟨ny, hny⟩ : ∃ N, y.nets = N := ⟨_, rfl⟩
  obtain ⟨n, hn⟩ : ∃ N, x.ds.length = N := ⟨_, rfl⟩
  obtain ⟨n2, hn2⟩ : ∃ N, y.ds.length = N := ⟨_, rfl⟩
  obtain ⟨p, hp⟩ : ∃ N, x.ps.length = N := ⟨_, rfl⟩
  obtain ⟨p2, hp2⟩ : ∃ N, y.ps.length = N := ⟨_, rfl⟩
  rw [hnx, hn, hp] at HV ⊢
  rw [hny, hn2, hp2] at HU ⊢
  have kA1 : Blk (((w.alloc (.cells #[.int .i64 nx, .slice a1 n c1, .slice a2 p c2] 35)).alloc (.cells #[.int .i64 ny, .slice b1 n2 d1, .slice b2 p2 d2] 35)).alloc (.cells #[.slice none 0 0, .slice none 0 0] 29)) w.heap.size #[.int .i64 nx, .slice a1 n c1, .slice a2 p c2] 35 := ((Blk.new _ rfl).past _).past _
  have kB1 : Blk (((w.alloc (.cells #[.int .i64 nx, .slice a1 n c1, .slice a2 p c2] 35)).alloc (.cells #[.int .i64 ny, .slice b1 n2 d1, .slice b2 p2 d2] 35)).alloc (.cells #[.slice none 0 0, .slice none 0 0] 29)) (w.heap.size + 1) #[.int .i64 ny, .slice b1 n2 d1, .slice b2 p2 d2] 35 := (Blk.new _ (by simp)).past _
  have kM1 : Blk (((w.alloc (.cells #[.int .i64 nx, .slice a1 n c1, .slice a2 p c2] 35)).alloc (.cells #[.int .i64 ny, .slice b1 n2 d1, .slice b2 p2 d2] 35)).alloc (.cells #[.slice none 0 0, .slice none 0 0] 29)) (w.heap.size + 2) #[.slice none 0 0, .slice none 0 0] 29 := Blk.new _ (by simp)
  have hb1w : Below w.heap.size w (((w.alloc (.cells #[.int .i64 nx, .slice a1 n c1, .slice a2 p c2] 35)).alloc (.cells #[.int .i64 ny, .slice b1 n2 d1, .slice b2 p2 d2] 35)).alloc (.cells #[.slice none 0 0, .slice none 0 0] 29)) := (((Below.refl _ w).alloc (Nat.le_refl _) _).alloc (by simp) _).alloc (by simp; omega) _
  clear h h' hok hok' hfx hfy hnx hny hn hn2 hp hp2 hC hR
  have qA := kA1.cell
  have qB := kB1.cell
  have lA := kA1.lt
  have lB := kB1.lt
  go_enter Tryz.func13, Tryz.ntmps13
  go_wp2_with fail
  generalize (((w.alloc (.cells #[.int .i64 nx, .slice a1 n c1, .slice a2 p c2] 35)).alloc (.cells #[.int .i64 ny, .slice b1 n2 d1, .slice b2 p2 d2] 35)).alloc (.cells #[.slice none 0 0, .slice none 0 0] 29)) = w1 at *
  refine (HVX.out _ _ (HV.out.by hb1w)).mono ?_
  rintro e w2 ⟨rfl, hb2⟩
  have kA2 := Blk.by hb2 kA1
  have kB2 := Blk.by hb2 kB1
  have kM2 := Blk.by hb2 kM1
  have hb2w := below_on hb2 hb1w
  clear hb2 kA1 kB1 kM1 hb1w qA qB lA lB
  have qA := kA2.cell
  have qB := kB2.cell
  have lA := kA2.lt
  have lB := kB2.lt
  cases hx : nlB x with
  | false =>
    obtain ⟨rfl, rfl⟩ : C = 1 ∧ R = ([], []) := by
      have h := cmp_inv (x := x) (y := y) (by rw [hx]; rfl)
      exact ⟨HC.out.symm.trans h.1, HR.out.symm.trans h.2⟩
    have qM := kM2.cell
    have fM := kM2.free
    have lM := kM2.lt
    go_wp2
    exact bodyPost_ret (v := .tuple #[.agg #[.slice none 0 0, .slice none 0 0], .int .i64 1]) (by simp [results, Tryz.results13, go_sem, *]) rfl ⟨_, rfl, own_below ((hb2w.setCell (show w.heap.size ≤ w.heap.size + 2 by omega) _).setCell (show w.heap.size ≤ w.heap.size + 2 by omega) _)⟩
  | true =>
    have HXB := Lib.hid hx
    clear hx
    go_wp2_with fail
    refine (HVY.out _ _ (HU.out.by hb2w)).mono ?_
    rintro e w3 ⟨rfl, hb3⟩
    have kA3 := Blk.by hb3 kA2
    have kB3 := Blk.by hb3 kB2
    have kM3 := Blk.by hb3 kM2
    have hb3w := below_on hb3 hb2w
    clear hb3 kA2 kB2 kM2 hb2w qA qB lA lB
    have qA := kA3.cell
    have qB := kB3.cell
    have lA := kA3.lt
    have lB := kB3.lt
    cases hy : nlB y with
    | false =>
      obtain ⟨rfl, rfl⟩ : C = 1 ∧ R = ([], []) := by
        have h := cmp_inv (x := x) (y := y) (by rw [hy, Bool.and_false])
        exact ⟨HC.out.symm.trans h.1, HR.out.symm.trans h.2⟩
      have qM := kM3.cell
      have fM := kM3.free
      have lM := kM3.lt
      go_wp2
      exact bodyPost_ret (v := .tuple #[.agg #[.slice none 0 0, .slice none 0 0], .int .i64 1]) (by simp [results, Tryz.results13, go_sem, *]) rfl ⟨_, rfl, own_below ((hb3w.setCell (show w.heap.size ≤ w.heap.size + 2 by omega) _).setCell (show w.heap.size ≤ w.heap.size + 2 by omega) _)⟩
    | true =>
      have HYB := Lib.hid hy
      clear hy
      have HVV := Lib.hid (show (nlB x && nlB y) = true from by rw [HXB.out, HYB.out]; rfl)
      go_wp2_with fail
      refine (HSX.out _ _ (HV.out.by hb3w)).mono ?_
      rintro e w4 ⟨rfl, hb4⟩
      have kA4 := Blk.by hb4 kA3
      have kB4 := Blk.by hb4 kB3
      have kM4 := Blk.by hb4 kM3
      have hb4w := below_on hb4 hb3w
      clear hb4 kA3 kB3 kM3 hb3w qA qB lA lB
      have qA := kA4.cell
      have qB := kB4.cell
      have lA := kA4.lt
      have lB := kB4.lt
      cases hx : smlB x with
      | false =>
        obtain ⟨rfl, rfl⟩ : C = 3 ∧ R = ([], []) := by
          have h := cmp_big (x := x) (y := y) HVV.out (by rw [hx]; rfl)
          exact ⟨HC.out.symm.trans h.1, HR.out.symm.trans h.2⟩
        have qM := kM4.cell
        have fM := kM4.free
        have lM := kM4.lt
        go_wp2
        exact bodyPost_ret (v := .tuple #[.agg #[.slice none 0 0, .slice none 0 0], .int .i64 3]) (by simp [results, Tryz.results13, go_sem, *]) rfl ⟨_, rfl, own_below ((hb4w.setCell (show w.heap.size ≤ w.heap.size + 2 by omega) _).setCell (show w.heap.size ≤ w.heap.size + 2 by omega) _)⟩
      | true =>
        have HXS := Lib.hid hx
        clear hx
        go_wp2_with fail
        refine (HSY.out _ _ (HU.out.by hb4w)).mono ?_
        rintro e w5 ⟨rfl, hb5⟩
        have kA5 := Blk.by hb5 kA4
        have kB5 := Blk.by hb5 kB4
        have kM5 := Blk.by hb5 kM4
        have hb5w := below_on hb5 hb4w
        clear hb5 kA4 kB4 kM4 hb4w qA qB lA lB
        have qA := kA5.cell
        have qB := kB5.cell
        have lA := kA5.lt
        have lB := kB5.lt
        cases hy : smlB y with
        | false =>
          obtain ⟨rfl, rfl⟩ : C = 3 ∧ R = ([], []) := by
            have h := cmp_big (x := x) (y := y) HVV.out (by rw [hy, Bool.and_false])
            exact ⟨HC.out.symm.trans h.1, HR.out.symm.trans h.2⟩
          have qM := kM5.cell
          have fM := kM5.free
          have lM := kM5.lt
          go_wp2
          exact bodyPost_ret (v := .tuple #[.agg #[.slice none 0 0, .slice none 0 0], .int .i64 3]) (by simp [results, Tryz.results13, go_sem, *]) rfl ⟨_, rfl, own_below ((hb5w.setCell (show w.heap.size ≤ w.heap.size + 2 by omega) _).setCell (show w.heap.size ≤ w.heap.size + 2 by omega) _)⟩
        | true =>
          have HSS := Lib.hid (show (smlB x && smlB y) = true from by rw [HXS.out, hy]; rfl)
          have HYS := Lib.hid hy
          clear hy
          go_wp2_with fail
          obtain ⟨O, hO⟩ : ∃ O, w5.heap.size = O := ⟨_, rfl⟩
          have hal : Below w5.heap.size w5 ((w5.alloc (.cells #[.slice none 0 0, .slice none 0 0] 29)).alloc (.cells #[.bool false] 4)) := ((Below.refl _ w5).alloc (Nat.le_refl _) _).alloc (by simp) _
          have kO6 : Blk ((w5.alloc (.cells #[.slice none 0 0, .slice none 0 0] 29)).alloc (.cells #[.bool false] 4)) O #[.slice none 0 0, .slice none 0 0] 29 := (Blk.new _ hO.symm).past _
          have kF6 : Blk ((w5.alloc (.cells #[.slice none 0 0, .slice none 0 0] 29)).alloc (.cells #[.bool false] 4)) (O + 1) #[.bool false] 4 := Blk.new _ (by simp [hO])
          have hs6 : ((w5.alloc (.cells #[.slice none 0 0, .slice none 0 0] 29)).alloc (.cells #[.bool false] 4)).heap.size = O + 2 := by simp [hO]
          have hs6a : O + 2 ≤ ((w5.alloc (.cells #[.slice none 0 0, .slice none 0 0] 29)).alloc (.cells #[.bool false] 4)).heap.size := Nat.le_of_eq hs6.symm
          have hs6b : ((w5.alloc (.cells #[.slice none 0 0, .slice none 0 0] 29)).alloc (.cells #[.bool false] 4)).heap.size ≤ O + 2 := Nat.le_of_eq hs6
          have kA6 := Blk.by hal kA5
          have kB6 := Blk.by hal kB5
          have kM6 := Blk.by hal kM5
          have hb6w := below_on hal hb5w
          have hs5w := hb5w.size
          have hlM := kM5.lt
          have hO1 : w5.heap.size ≤ O := Nat.le_of_eq hO
          have hO2 : O ≤ w5.heap.size := Nat.le_of_eq hO.symm
          rw [hO]
          clear hal hs6 kA5 kB5 kM5 hb5w qA qB lA lB hO
          generalize (w5.alloc (.cells #[.slice none 0 0, .slice none 0 0] 29)).alloc (.cells #[.bool false] 4) = w6 at *
          have HYC : Hid (YldC x y true (.agg #[.int .i64 nx, .slice a1 n c1, .slice a2 p c2]) (.agg #[.int .i64 ny, .slice b1 n2 d1, .slice b2 p2 d2]) 43 #[.pointer (some ⟨w.heap.size, 0, none⟩), .pointer (some ⟨w.heap.size + 1, 0, none⟩), .pointer (some ⟨O, 0, none⟩), .pointer (some ⟨O + 1, 0, none⟩)] (fun b => b = O ∨ b = O + 1) (CmpYd w.heap.size (w.heap.size + 1) O (O + 1) w6.heap.size #[.int .i64 nx, .slice a1 n c1, .slice a2 p c2] #[.int .i64 ny, .slice b1 n2 d1, .slice b2 p2 d2] x y) w6) := Lib.hid {
            hV := fun w1 h1 => HV.out.by (h1.below hb6w (fun k hk h => by rcases h with h | h <;> omega))
            hU := fun w1 h1 => HU.out.by (h1.below hb6w (fun k hk h => by rcases h with h | h <;> omega))
            hYl := fun b h => by rcases h with h | h <;> omega
            eg := enters_of Tryz.func43 (by kernel_rfl) rfl
            hY := fun hpre zs z sv w1 h1 h2 h3 h4 h5 h6 h7 => by
              obtain ⟨f1, f2, f3, f4⟩ := pre_facts hpre
              have hI := iso_of HXB.out HYB.out f1 f2 f3 f4 h5 h6 h7
              obtain ⟨g1, g2, g3⟩ := h1
              rcases g3 with ⟨g3, g4, g5⟩ | ⟨z', r, g3, _⟩
              · have hbw := h3.below hb6w (fun k hk h => by rcases h with h | h <;> omega)
                have hs1 := h3.size
                have hz10 : x.nets ≤ 10 := by
                  have := HXS.out
                  unfold smlB at this
                  simp at this
                  exact this.1
                show Calls Tryz.prog 43 #[sv, .pointer (some ⟨w.heap.size, 0, none⟩), .pointer (some ⟨w.heap.size + 1, 0, none⟩), .pointer (some ⟨O, 0, none⟩), .pointer (some ⟨O + 1, 0, none⟩)] w1 _
                refine (cmp1_any x y z w.heap.size (w.heap.size + 1) O (O + 1) nx ny a1 a2 b1 b2 c1 c2 d1 d2 n p n2 p2 sv w1 g1 g2 g4 g5 (by omega) (by omega) (by omega) (by omega) (by omega) (HV.out.by hbw) (HU.out.by hbw) h4 (by omega) HXB.out HYB.out f2 (by omega) (NlIso.perm hI HXB.out HYB.out)).mono ?_
                rintro e w9 ⟨rfl, ⟨s1, s2, m, q1, q2, q3, q4, q5, q6⟩, q7, q8, q9⟩
                refine ⟨rfl, ⟨q7, q8, .inr ⟨z, [], by rw [g3]; rfl, s1, s2, w1.heap.size, m, q1, q2, hs1, q3, q4, q5, q6⟩⟩, q9⟩
              · have := h2 rfl
                rw [this] at g3
                cases g3
            hYs := fun zs w1 w2 h1 h2 h3 => by
              obtain ⟨g1, g2, g3⟩ := h1
              rcases g3 with ⟨g3, g4, g5⟩ | ⟨z', r, g3, _⟩
              · exact ⟨h3.blk g1 (by omega), h3.blk g2 (by omega), .inl ⟨g3, h3.blk g4 (by omega), h3.blk g5 (by omega)⟩⟩
              · have := h2 rfl
                rw [this] at g3
                cases g3
            h0 := ⟨kA6, kB6, .inl ⟨rfl, kO6, kF6⟩⟩ }
          have HXL := Lib.hid (show x.ds.length ≤ 10 from by
            have := HXS.out
            unfold smlB at this
            simp at this
            exact this.2)
          have HYL := Lib.hid (show y.ds.length ≤ 10 from by
            have := HYS.out
            unfold smlB at this
            simp at this
            exact this.2)
          refine (isomorphisms_any x y true _ _ _ _ _ _ w6 HXB.out HYB.out HXL.out HYL.out HYC.out).mono ?_
          rintro e w7 ⟨rfl, hY7, hE7⟩
          have hok := cmp_ok HVV.out HSS.out
          rw [HC.out, HR.out] at hok
          obtain ⟨hok1, hok2⟩ := hok
          have HCF := Lib.hid (show cmpF x y = (ismS x y true).head? from by
            rw [cmpF_pre HXB.out HYB.out]
            unfold ismS
            split <;> rfl)
          have kM7 := hE7.blk kM6 (show ¬ (w.heap.size + 2 = O ∨ w.heap.size + 2 = O + 1) by omega)
          have hb7w : Below w.heap.size w w7 := hE7.below hb6w (fun k hk h => by rcases h with h | h <;> omega)
          have hs7 := hE7.size
          have HK1 := Lib.hid hok1
          have HK2 := Lib.hid hok2
          have qM := kM7.cell
          have fM := kM7.free
          have lM := kM7.lt
          clear hok1 hok2 HYC hE7 kM6 kO6 kF6 kA6 kB6
          obtain ⟨_, _, hY7⟩ := hY7
          rcases hY7 with ⟨hz, kO7, kF7⟩ | ⟨z, r, hz, s1, s2, lo, m, kO7, kF7, hlo, hO1, hO2, hlm, hms⟩
          · rw [hz] at HCF
            have cF := kF7.cell
            have lF := kF7.lt
            obtain rfl : C = 5 := by rw [HK1.out, HCF.out]; rfl
            obtain rfl : R = ([], []) := by rw [HK2.out]; unfold fstR; rw [HCF.out]; rfl
            clear hz kO7
            go_wp2
            exact bodyPost_ret (v := .tuple #[.agg #[.slice none 0 0, .slice none 0 0], .int .i64 5]) (by simp [results, Tryz.results13, go_sem, *]) rfl ⟨_, rfl, ownPr_nil0 _ _ _ (by simp; omega), (hb7w.setCell (show w.heap.size ≤ w.heap.size + 2 by omega) _).setCell (show w.heap.size ≤ w.heap.size + 2 by omega) _⟩
          · rw [hz] at HCF
            have cF := kF7.cell
            have lF := kF7.lt
            obtain rfl : C = 0 := by rw [HK1.out, HCF.out]; rfl
            obtain rfl : R = (z, cpS x y z) := by rw [HK2.out]; unfold fstR; rw [HCF.out]; rfl
            obtain ⟨e1, f1, rfl⟩ := hO1.sl.len
            obtain ⟨e2, f2, rfl⟩ := hO2.sl.len
            have HO1 := Lib.hid hO1
            have HO2 := Lib.hid hO2
            obtain ⟨q1, hq1⟩ : ∃ q, z.length = q := ⟨_, rfl⟩
            obtain ⟨q2, hq2⟩ : ∃ q, (cpS x y z).length = q := ⟨_, rfl⟩
            rw [hq1] at HO1 kO7
            rw [hq2] at HO2 kO7
            have qO := kO7.cell
            have lO := kO7.lt
            have HF1 := Lib.hid (show OwnPr ((w7.setCell ⟨w.heap.size + 2, 0, none⟩ (.slice e1 q1 f1)).setCell ⟨w.heap.size + 2, 1, none⟩ (.slice e2 q2 f2)) w.heap.size ((w7.setCell ⟨w.heap.size + 2, 0, none⟩ (.slice e1 q1 f1)).setCell ⟨w.heap.size + 2, 1, none⟩ (.slice e2 q2 f2)).heap.size (.agg #[.slice e1 q1 f1, .slice e2 q2 f2]) (z, cpS x y z) from
              ⟨_, _, lo, m, m, w7.heap.size, rfl, (HO1.out.past (Within.off _) (by omega)).past (Within.off _) (by omega), (HO2.out.past (Within.off _) (by omega)).past (Within.off _) (by omega), ⟨by omega, by simp; omega⟩, ⟨by omega, by simp⟩, .inl (Nat.le_refl _)⟩)
            clear hz hO1 hO2 hq1 hq2 HO1 HO2 HK1 HK2 HCF
            go_wp2
            exact bodyPost_ret (v := .tuple #[.agg #[.slice e1 q1 f1, .slice e2 q2 f2], .int .i64 0]) (by simp [results, Tryz.results13, go_sem, *]) rfl ⟨_, rfl, HF1.out, (hb7w.setCell (show w.heap.size ≤ w.heap.size + 2 by omega) _).setCell (show w.heap.size ≤ w.heap.size + 2 by omega) _⟩
theorem fstNo_rng (f : Nat → Bool) (n : Nat) : fstNo f n = -1 ∨ 0 ≤ fstNo f n := by
  rcases fstNo_cases f n with ⟨h, _⟩ | ⟨k, _, h, _⟩
  · exact .inl h
  · exact .inr (by omega)
theorem exp_inv {x y : Nl} (h : (nlB x && nlB y) = false) : expR x y = ((0, 0, 0), 1) := by
  unfold expR
  rw [if_neg (by rw [h]; simp)]
theorem exp_nets {x y : Nl} (h : (nlB x && nlB y) = true) (h1 : x.nets ≠ y.nets) : expR x y = ((1, x.nets, y.nets), 0) := by
  unfold expR
  rw [if_pos h, if_neg h1]
theorem exp_len {x y : Nl} (h : (nlB x && nlB y) = true) (h1 : x.nets = y.nets) (h2 : x.ds.length ≠ y.ds.length) : expR x y = ((2, (x.ds.length : Int), (y.ds.length : Int)), 0) := by
  unfold expR
  rw [if_pos h, if_pos h1, if_neg h2]
noncomputable def fndL (x y : Nl) : List Int := [namD x.ps y.ps, sizD x.ds y.ds, colD (refNet x).1.1 (refNet y).1.1, colD (refNet x).1.2 (refNet y).1.2]
theorem fnd_rng (x y : Nl) {i : Nat} {z : Int} (h : (fndL x y)[i]? = some z) : z = -1 ∨ 0 ≤ z := by
  match i with
  | 0 => cases h; exact fstNo_rng _ _
  | 1 => cases h; exact fstNo_rng _ _
  | 2 => cases h; exact fstNo_rng _ _
  | 3 => cases h; exact fstNo_rng _ _
  | i + 4 => cases h
theorem exp_found {x y : Nl} (h : (nlB x && nlB y) = true) (h1 : x.nets = y.nets) (h2 : x.ds.length = y.ds.length) {i : Nat} {z : Int} (hz : (fndL x y)[i]? = some z) (hz0 : 0 ≤ z) (hlt : ∀ j < i, (fndL x y)[j]? = some (-1)) : expR x y = ((3 + (i : Int), z, 0), 0) := by
  unfold expR
  rw [if_pos h, if_pos h1, if_pos h2]
  have hn : ∀ {a : Int}, some a = some (-1 : Int) → a = -1 := fun e => Option.some.inj e
  match i with
  | 0 => cases hz; rw [if_neg (by omega)]; rfl
  | 1 => cases hz; rw [if_pos (hn (hlt 0 (by omega))), if_neg (by omega)]; rfl
  | 2 => cases hz; rw [if_pos (hn (hlt 0 (by omega))), if_pos (hn (hlt 1 (by omega))), if_neg (by omega)]; rfl
  | 3 => cases hz; rw [if_pos (hn (hlt 0 (by omega))), if_pos (hn (hlt 1 (by omega))), if_pos (hn (hlt 2 (by omega))), if_neg (by omega)]; rfl
  | i + 4 => cases hz
theorem exp_big {x y : Nl} (h : (nlB x && nlB y) = true) (h1 : x.nets = y.nets) (h2 : x.ds.length = y.ds.length) (hlt : ∀ j < 4, (fndL x y)[j]? = some (-1)) (h3 : (smlB x && smlB y) = false) : expR x y = ((0, 0, 0), 3) := by
  unfold expR
  have hn : ∀ {a : Int}, some a = some (-1 : Int) → a = -1 := fun e => Option.some.inj e
  rw [if_pos h, if_pos h1, if_pos h2, if_pos (hn (hlt 0 (by omega))), if_pos (hn (hlt 1 (by omega))), if_pos (hn (hlt 2 (by omega))), if_pos (hn (hlt 3 (by omega))), if_neg (by rw [h3]; simp)]
theorem exp_end {x y : Nl} (h : (nlB x && nlB y) = true) (h1 : x.nets = y.nets) (h2 : x.ds.length = y.ds.length) (hlt : ∀ j < 4, (fndL x y)[j]? = some (-1)) (h3 : (smlB x && smlB y) = true) : expR x y = ((if (cmpF x y).isSome = true then 0 else 7, 0, 0), 0) := by
  unfold expR
  have hn : ∀ {a : Int}, some a = some (-1 : Int) → a = -1 := fun e => Option.some.inj e
  rw [if_pos h, if_pos h1, if_pos h2, if_pos (hn (hlt 0 (by omega))), if_pos (hn (hlt 1 (by omega))), if_pos (hn (hlt 2 (by omega))), if_pos (hn (hlt 3 (by omega))), if_pos h3]
  cases cmpF x y <;> rfl
theorem four_at {a b c d z : Int} {i : Nat} (h : [a, b, c, d][i]? = some z) : (#[.int .i64 a, .int .i64 b, .int .i64 c, .int .i64 d] : Array Value)[i]? = some (.int .i64 z) := by
  match i with
  | 0 => cases h; rfl
  | 1 => cases h; rfl
  | 2 => cases h; rfl
  | 3 => cases h; rfl
  | i + 4 => cases h
end Go.Proofs.YtifbffianbgeaaaGreat
