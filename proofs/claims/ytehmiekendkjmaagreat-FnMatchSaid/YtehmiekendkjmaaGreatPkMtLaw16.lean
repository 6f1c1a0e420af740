/- Contracts and plain laws, part 16, for the statement's proof. -/
import Derived.Test.YtehmiekendkjmaaGreatPkMtLaw15
import Derived.Deep.DeepCutAuto
import Derived.Deep.CutRange
namespace Go.Proofs.YtehmiekendkjmaaGreat
open Go.RowKit
set_option linter.unusedVariables false
set_option linter.unusedSimpArgs false
theorem list_pushG2 {ops : Array Oper} {rest : List Oper} {o : Oper} {a : Act} {w : World} {Q : Exit → Act → World → Prop} (hgd : o.guard = none) (s x : Operand)
    (ho : o.op = .call { callee := .builtin .append, args := #[s, x], argTypes := #[30, 30] })
    (lo hi N : Nat) (v : Value) (zs : List Int) (hN : zs.length = N) (d : Int) (hs : a.eval s = v) (hB : BldI w lo hi v zs) (nb : Nat) (hx : a.eval x = .slice (some ⟨nb, 0, none⟩) 1 1)
    (hnb : Blk w nb #[.int .i64 d] 2) (hlo : lo ≤ hi) (hn : N + 1 ≤ 8000000)
    (hK : ∀ g c' w', BldI w' lo w'.heap.size (.slice (some ⟨g, 0, none⟩) (N + 1) c') (zs ++ [d]) → Within lo hi w w' → wpList Tryz.prog ops Q rest (a.put o.dst (.slice (some ⟨g, 0, none⟩) (N + 1) c')) w') : wpList Tryz.prog ops Q (o :: rest) a w := by
  subst hN
  exact wpList_plain hgd fun K hk => by
    have h := step_pushG (ops := ops) (K := K) (Q := Q) (E := False) hgd s x ho lo hi v zs [d] hs hB nb 1 #[.int .i64 d] hx rfl (by omega) hnb rfl hlo hn (fun a' c' w' h1 h2 h3 h4 => hk _ _ (hK a' c' w' h1 h4))
    rwa [if_pos (by simp [Region.wanted, hgd])] at h
theorem BldI.some {w : World} {lo hi m : Nat} {v : Value} {zs : List Int} {d : Int} (h : BldI w lo hi v (zs ++ [d])) (hm : zs.length = m) : ∃ g c, v = .slice (some ⟨g, 0, none⟩) (m + 1) c ∧ m + 1 ≤ c ∧ c ≤ maxLen := by
  obtain ⟨hs, ⟨h1, h2⟩, h3⟩ := h
  rw [List.length_append, hm] at h2
  rcases h2 with ⟨_, h2⟩ | ⟨g, cap, cur, e1, e2, e3, e4, e5, _⟩
  · simp at h2
  · exact ⟨g, cap, e1, e4, e5⟩
theorem nz_pins {n : Int} {d : Dv} (h : dvB n d = true) : (nzD d).pins.length ≤ 3 ∧ ∀ p ∈ (nzD d).pins, 0 ≤ p ∧ p < n := by
  have h1 := dvB_pins h
  refine ⟨by show (normz d.kind d.pins).length ≤ 3; rw [length_normz]; exact h1.1, ?_⟩
  have h2 := nz_all (fun p => decide (0 ≤ p ∧ p < n)) (dvB_Two h)
  have h3 : d.pins.all (fun p => decide (0 ≤ p ∧ p < n)) = true := List.all_eq_true.2 (fun p hp => decide_eq_true (h1.2.2 p hp))
  rw [h3] at h2
  intro p hp
  exact of_decide_eq_true (List.all_eq_true.1 h2 p hp)
def EB (M U : Nat) (Y : Nat → Prop) (b : Nat) : Prop := b = M ∨ b = U ∨ Y b
structure RunC (x y : Nl) (cx cy : List Int) (one : Bool) (n J M U NA NB lo hi gY : Nat) (A1 A2 B1 B2 C1 C2 D1 D2 DB : Value) (nb : Int) (lbY : Array Value) (Y : Nat → Prop) (Yd : List (List Int) → World → Prop) (wJ : World) : Prop where
  hx : nlB x = true
  hy : nlB y = true
  hxy : y.nets = x.nets
  hpl : y.ps.length = x.ps.length
  hnn : x.nets = n
  hlx : x.ds.length ≤ 10
  hly : y.ds.length ≤ 10
  hJ : wJ.heap.size = J
  hMJ : M < J
  hUJ : U < J
  hMU : M ≠ U
  hYM : ¬ Y M
  hYU : ¬ Y U
  hYJ : ∀ b, Y b → b < J
  hlo : hi ≤ J
  hA : ∀ w, Exc (EB M U Y) wJ w → DvSl w A1 x.ds
  hcx : cx.length = n
  hcy : cy.length = n
  hCA : ∀ w, Exc (EB M U Y) wJ w → IntSl w C1 cx
  hCB : ∀ w, Exc (EB M U Y) wJ w → IntSl w D1 cy
  hD : ∀ w, Exc (EB M U Y) wJ w → OwnDs w lo hi DB (y.ds.map nzD)
  hPA : ∀ w, Exc (EB M U Y) wJ w → ∀ k : Nat, k < n → ∃ s, w.cell? ⟨NA, k, none⟩ = some s ∧ IntSl w s (portTo x.ps (k : Int) x.ps.length)
  hPB : ∀ w, Exc (EB M U Y) wJ w → ∀ k : Nat, k < n → ∃ s, w.cell? ⟨NB, k, none⟩ = some s ∧ IntSl w s (portTo y.ps (k : Int) y.ps.length)
  eg : ∀ args w, (callFunc gY args).run Tryz.prog w = .ok (.enter gY args) w
  hY : ∀ (zs : List (List Int)) (z : List Int) (sv : Value) (w : World), Yd zs w → (one = true → zs = []) → Exc (EB M U Y) wJ w → IntSl w sv z → goodN n z → z.length = n → fitB x y z = true → Calls Tryz.prog gY (#[sv] ++ lbY) w fun e w' => e = .returned (.bool (!one)) ∧ Yd (zs ++ [z]) w' ∧ Exc Y w w'
  hYs : ∀ (zs : List (List Int)) (w w' : World), Yd zs w → (one = true → zs = []) → Exc (fun b => b = M ∨ b = U ∨ J ≤ b) w w' → Yd zs w'
def stopB (one : Bool) (l : List (List Int)) : Bool := one && !l.isEmpty
def RunOk (x y : Nl) (cx cy : List Int) (one : Bool) (n J M U NA NB lo hi gY : Nat) (A1 A2 B1 B2 C1 C2 D1 D2 DB : Value) (nb : Int) (lbY : Array Value) (Y : Nat → Prop) (Yd : List (List Int) → World → Prop) (wJ : World) (r : Nat) : Prop :=
  ∀ (nets : List Int) (zs : List (List Int)) (NV : Value) (w : World), Blk w M #[.int .i64 (n : Int), A1, A2, .int .i64 nb, B1, B2, C1, C2, D1, D2, DB, NV, .slice (some ⟨U, 0, none⟩) n n, .func (.func gY) #[] lbY, .slice (some ⟨NA, 0, none⟩) n n, .slice (some ⟨NB, 0, none⟩) n n] 79 → BldI w J w.heap.size NV nets → UsedB w U n nets → Exc (EB M U Y) wJ w → Yd zs w → (one = true → zs = []) → goodN n nets → nets.length + r = n → fitB x y nets = true →
    Calls Tryz.prog 40 #[.pointer (some ⟨M, 0, none⟩)] w fun e w' => e = .returned (.bool (!stopB one (srch (fitB x y) (colB cx cy) n one r nets))) ∧ Yd (zs ++ srch (fitB x y) (colB cx cy) n one r nets) w' ∧ Exc (EB M U Y) wJ w' ∧
      (stopB one (srch (fitB x y) (colB cx cy) n one r nets) = false → ∃ NV', Blk w' M #[.int .i64 (n : Int), A1, A2, .int .i64 nb, B1, B2, C1, C2, D1, D2, DB, NV', .slice (some ⟨U, 0, none⟩) n n, .func (.func gY) #[] lbY, .slice (some ⟨NA, 0, none⟩) n n, .slice (some ⟨NB, 0, none⟩) n n] 79 ∧ BldI w' J w'.heap.size NV' nets ∧ UsedB w' U n nets)
set_option maxRecDepth 100000 in
set_option maxHeartbeats 16000000 in
theorem run_step (x y : Nl) (cx cy : List Int) (one : Bool) (n J M U NA NB lo hi gY : Nat) (A1 A2 B1 B2 C1 C2 D1 D2 DB : Value) (nb : Int) (lbY : Array Value) (Y : Nat → Prop) (Yd : List (List Int) → World → Prop) (wJ : World) (C : RunC x y cx cy one n J M U NA NB lo hi gY A1 A2 B1 B2 C1 C2 D1 D2 DB nb lbY Y Yd wJ) (r : Nat) (ih : ∀ q, r = q + 1 → RunOk x y cx cy one n J M U NA NB lo hi gY A1 A2 B1 B2 C1 C2 D1 D2 DB nb lbY Y Yd wJ q) : RunOk x y cx cy one n J M U NA NB lo hi gY A1 A2 B1 B2 C1 C2 D1 D2 DB nb lbY Y Yd wJ r := by
  intro nets zs NV w hM hB hU hE hY hone hg hl hfit
  have HC := Lib.hid C
  have hMJ := C.hMJ
  have hUJ := C.hUJ
  have hMU := C.hMU
  have HB := Lib.hid hB
  have HU := Lib.hid hU
  have HE := Lib.hid hE
  have HY := Lib.hid hY
  have HO := Lib.hid hone
  have HG := Lib.hid hg
  have HF := Lib.hid hfit
  have hn24 : n ≤ 24 := by have := (nlB_facts C.hx).1; have := C.hnn; omega
  obtain ⟨an, cn, rfl⟩ := hB.sized
  obtain ⟨m, hm⟩ : ∃ m, nets.length = m := ⟨_, rfl⟩
  rw [hm] at hM HB hl
  have HM := Lib.hid hm
  obtain ⟨LL, hLL⟩ : ∃ l, srch (fitB x y) (colB cx cy) n one r nets = l := ⟨_, rfl⟩
  rw [hLL]
  have HLL := Lib.hid hLL
  have hsz : J ≤ w.heap.size := by rw [← C.hJ]; exact hE.size
  have cM := hM.cell
  have lM := hM.lt
  have HPX := Lib.hid (show ∀ d ∈ x.ds, 2 ≤ d.pins.length ∧ d.pins.length ≤ 3 ∧ ∀ p ∈ d.pins, 0 ≤ p from fun d hd => by
    obtain ⟨_, _, _, hdx, _⟩ := nlB_facts C.hx
    have := dvB_pins (hdx d hd)
    exact ⟨this.2.1, this.1, fun p hp => (this.2.2 p hp).1⟩)
  have HPY := Lib.hid (show ∀ d ∈ y.ds.map nzD, d.pins.length ≤ 3 ∧ ∀ p ∈ d.pins, 0 ≤ p ∧ p < (n : Int) from fun d hd => by
    obtain ⟨_, _, _, hdy, _⟩ := nlB_facts C.hy
    obtain ⟨e, he, rfl⟩ := List.mem_map.1 hd
    have h1 := hdy e he
    rw [C.hxy, C.hnn] at h1
    exact nz_pins h1)
  clear C hB hU hE hY hone hg hfit hm hLL
  cases r with
  | zero =>
    have e1 : ((m : Int) == (n : Int)) = true := by simp; omega
    have HS := Lib.hid (show LL = [nets] from by rw [← HLL.out]; rfl)
    have HYC := Lib.hid (HC.out.hY zs nets (.slice an m cn))
    have egY := HC.out.eg
    go_enter Tryz.func40, Tryz.ntmps40
    go_upto_region 3 with fail
    have hS : (fun w' : World => Blk w' M #[.int .i64 (n : Int), A1, A2, .int .i64 nb, B1, B2, C1, C2, D1, D2, DB, .slice an m cn, .slice (some ⟨U, 0, none⟩) n n, .func (.func gY) #[] lbY, .slice (some ⟨NA, 0, none⟩) n n, .slice (some ⟨NB, 0, none⟩) n n] 79) { w with drawn := w.drawn + 1 } := hM.drew
    refine wp_region_any (by kernel_rfl) (wpAny_of_E (S := fun w' : World => Blk w' M #[.int .i64 (n : Int), A1, A2, .int .i64 nb, B1, B2, C1, C2, D1, D2, DB, .slice an m cn, .slice (some ⟨U, 0, none⟩) n n, .func (.func gY) #[] lbY, .slice (some ⟨NA, 0, none⟩) n n, .slice (some ⟨NB, 0, none⟩) n n] 79) (l := 9) _ _ _ _ ?_)
    change wpAnyE _ _ _ _ _ _ _ _ _ w.drew
    refine wpAnyE_takeL (i := 0) (v := ?_) rfl (by kernel_rfl) (fun _ _ _ h => h) (Or.inl ⟨by rfl, ?_⟩) hS ?_
    rotate_left
    · intro w hSw; (try dsimp only at hSw); have qM := hSw.cell; have lM := hSw.lt; clear hSw; go_simp; (try with_reducible rfl)
    try simp only [Act.put, List.setIfInBounds_toArray, List.set_cons_zero, List.set_cons_succ]
    refine wpAnyE_takeL (i := 1) (v := ?_) rfl (by kernel_rfl) (fun _ _ _ h => h) (Or.inl ⟨by rfl, ?_⟩) hS ?_
    rotate_left
    · intro w hSw; (try dsimp only at hSw); have qM := hSw.cell; have lM := hSw.lt; clear hSw; go_simp; (try with_reducible rfl)
    try simp only [Act.put, List.setIfInBounds_toArray, List.set_cons_zero, List.set_cons_succ]
    refine wpAnyE_takeL (i := 2) (v := ?_) rfl (by kernel_rfl) (fun _ _ _ h => h) (Or.inl ⟨by rfl, ?_⟩) hS ?_
    rotate_left
    · intro w hSw; (try dsimp only at hSw); have qM := hSw.cell; have lM := hSw.lt; clear hSw; go_simp; (try with_reducible rfl)
    try simp only [Act.put, List.setIfInBounds_toArray, List.set_cons_zero, List.set_cons_succ]
    refine wpAnyE_takeL (i := 3) (v := ?_) rfl (by kernel_rfl) (fun _ _ _ h => h) (Or.inl ⟨by rfl, ?_⟩) hS ?_
    rotate_left
    · intro w hSw; (try dsimp only at hSw); have qM := hSw.cell; have lM := hSw.lt; clear hSw; go_simp; (try with_reducible rfl)
    try simp only [Act.put, List.setIfInBounds_toArray, List.set_cons_zero, List.set_cons_succ]
    refine wpAnyE_takeL (i := 4) (v := ?_) rfl (by kernel_rfl) (fun _ _ _ h => h) (Or.inl ⟨by rfl, ?_⟩) hS ?_
    rotate_left
    · intro w hSw; (try dsimp only at hSw); have qM := hSw.cell; have lM := hSw.lt; clear hSw; go_simp; (try with_reducible rfl)
    try simp only [Act.put, List.setIfInBounds_toArray, List.set_cons_zero, List.set_cons_succ]
    refine wpAnyE_takeL (i := 5) (v := ?_) rfl (by kernel_rfl) (fun _ _ _ h => h) (Or.inl ⟨by rfl, ?_⟩) hS ?_
    rotate_left
    · intro w hSw; (try dsimp only at hSw); have qM := hSw.cell; have lM := hSw.lt; clear hSw; go_simp; (try with_reducible rfl)
    try simp only [Act.put, List.setIfInBounds_toArray, List.set_cons_zero, List.set_cons_succ]
    refine wpAnyE_takeL (i := 6) (v := ?_) rfl (by kernel_rfl) (fun _ _ _ h => h) (Or.inl ⟨by rfl, ?_⟩) hS ?_
    rotate_left
    · intro w hSw; (try dsimp only at hSw); have qM := hSw.cell; have lM := hSw.lt; clear hSw; go_simp; (try with_reducible rfl)
    try simp only [Act.put, List.setIfInBounds_toArray, List.set_cons_zero, List.set_cons_succ]
    refine wpAnyE_takeL (i := 7) (v := ?_) rfl (by kernel_rfl) (fun _ _ _ h => h) (Or.inl ⟨by rfl, ?_⟩) hS ?_
    rotate_left
    · intro w hSw; (try dsimp only at hSw); have qM := hSw.cell; have lM := hSw.lt; clear hSw; go_simp; (try with_reducible rfl)
    try simp only [Act.put, List.setIfInBounds_toArray, List.set_cons_zero, List.set_cons_succ]
    refine wpAnyE_oneL (k := 8) (by kernel_rfl) rfl (fun K hK => ?_)
    go_simp
    go_at_fn gY
    refine (HYC.out w.drew (HC.out.hYs zs w w.drew HY.out HO.out (Exc.ofBelow (below_of_drewN w 1))) HO.out (HE.out.on (Exc.ofBelow (below_of_drewN w 1))) (HB.out.own.sl.by (below_of_drewN w 1)) HG.out (by rw [HM.out]; omega) HF.out).mono ?_
    rintro e w2 ⟨rfl, hY2, hE2⟩
    have kM2 := hE2.blk hM.drew HC.out.hYM
    have HY2 := Lib.hid hY2
    have hEw : Exc Y w w2 := (Exc.ofBelow (below_of_drewN w 1)).on hE2
    have HE2 := Lib.hid hEw
    clear hS hY2 hE2 hEw
    refine hK.out _ _ (fun _ => kM2) ?_
    try simp only [Act.put, List.setIfInBounds_toArray, List.set_cons_zero, List.set_cons_succ]
    refine wpAnyE_oneL (k := 9) (by kernel_rfl) rfl (fun K hK => ?_)
    go_simp
    refine hK.out _ _ (fun h => absurd rfl h) ?_
    refine wpAnyE_done (by kernel_rfl) ?_ _
    go_wp2
    go_ret
    have hEE : Exc (EB M U Y) w w2 := HE2.out.mono (fun k _ h => .inr (.inr h))
    refine ⟨ret_bool (by rw [HS.out]; cases one <;> rfl), by rw [HS.out]; exact HY2.out, HE.out.on hEE, fun _ => ⟨_, kM2, ?_, UsedB.exc HE2.out HU.out HC.out.hYU⟩⟩
    exact (BldI.exc (E := fun b => Y b ∧ b < J) ⟨HE2.out.os, HE2.out.tape, HE2.out.output, HE2.out.size, fun q hq hn => by
      rcases Nat.lt_or_ge q J with h | h
      · exact HE2.out.block q hq (fun hy => hn ⟨hy, h⟩)
      · exact HE2.out.block q hq (fun hy => by have := HC.out.hYJ q hy; omega)⟩ HB.out (fun q h1 h2 h3 => by omega)).wideN HE2.out.size (Nat.le_refl _)
  | succ r =>
    have e1 : ((m : Int) == (n : Int)) = false := by simp; omega
    have hmn : m < n := by omega
    have HIH := Lib.hid (ih r rfl)
    have HS := Lib.hid (show srTo (stG x y (colB cx cy) n one r nets) one n = LL from HLL.out)
    have HGK := Lib.hid (show ∀ k : Nat, stG x y (colB cx cy) n one r nets k = (if (colB cx cy m k && (!nets.contains (k : Int) && fitB x y (nets ++ [(k : Int)]))) = true then srch (fitB x y) (colB cx cy) n one r (nets ++ [(k : Int)]) else []) from fun k => by unfold stG; rw [HM.out])
    clear HLL ih
    generalize stG x y (colB cx cy) n one r nets = G at *
    have HFS := Lib.hid (fun (k : Nat) (hg : goodN n (nets ++ [(k : Int)])) => (show fitB x y (nets ++ [(k : Int)]) = (decide (portTo x.ps (m : Int) x.ps.length = portTo y.ps (k : Int) y.ps.length) && fitI x y (nets ++ [(k : Int)])) from by
      have hnt : x.nets.toNat = n := by have := HC.out.hnn; omega
      rw [fit_step HC.out.hx HC.out.hy HC.out.hxy HC.out.hpl (by rw [hnt]; exact hg) HF.out, HM.out]))
    obtain ⟨cb, co, cc, hec, _, _⟩ := (HC.out.hCA w HE.out).nm (by rw [HC.out.hcx]; omega)
    obtain ⟨db, dd, dc, hed, _, _⟩ := (HC.out.hCB w HE.out).nm (by rw [HC.out.hcy]; omega)
    rw [HC.out.hcx] at hec
    rw [HC.out.hcy] at hed
    subst hec hed
    go_enter Tryz.func40, Tryz.ntmps40
    go_wp2
    clear cM
    go_loopw [31] (fun iv wr => ∃ (k : Nat) (NV : Value), k ≤ n ∧ iv = .int .i64 (k : Int) ∧ Blk wr M #[.int .i64 (n : Int), A1, A2, .int .i64 nb, B1, B2, .slice (some ⟨cb, co, none⟩) n cc, C2, .slice (some ⟨db, dd, none⟩) n dc, D2, DB, NV, .slice (some ⟨U, 0, none⟩) n n, .func (.func gY) #[] lbY, .slice (some ⟨NA, 0, none⟩) n n, .slice (some ⟨NB, 0, none⟩) n n] 79 ∧ Hid (BldI wr J wr.heap.size NV nets) ∧ Hid (UsedB wr U n nets) ∧ Hid (Exc (EB M U Y) wJ wr) ∧ Hid (Yd (zs ++ srTo G one k) wr) ∧ Hid (one = true → srTo G one k = [])) (fun iv _ => n - (intOf iv).toNat)
    case atStart => exact ⟨0, .slice an m cn, Nat.zero_le _, rfl, hM, HB, HU, HE, Lib.hid (by show Yd (zs ++ []) _; rw [List.append_nil]; exact HY.out), Lib.hid (fun _ => rfl)⟩
    case round =>
      clear hM HB HU HE HY lM hsz
      obtain ⟨k, NV, hk, rfl, kM, HB, HU, HE, HY, HO1⟩ := hrel
      obtain ⟨an, cn, rfl⟩ := HB.out.sized
      rw [HM.out] at kM HB
      have hsz : J ≤ wr.heap.size := by rw [← HC.out.hJ]; exact HE.out.size
      have HOZ := Lib.hid (show one = true → zs ++ srTo G one k = [] from fun h => by rw [HO.out h, HO1.out h]; rfl)
      by_cases hlt : k < n
      · have HNX := Lib.hid (show srTo G one (k + 1) = srTo G one k ++ G k from srTo_next (fun h => by
          simp only [Bool.and_eq_true, decide_eq_true_eq] at h
          rw [HO1.out h.1] at h
          simp at h))
        have i1 : (k : Int) < (n : Int) := by omega
        have i2 : decide (k < n) = true := decide_eq_true hlt
        have i3 : (m : Int) < (n : Int) := by omega
        have i4 : decide (m < n) = true := decide_eq_true hmn
        obtain ⟨cU, fU, lU⟩ := HU.out.cell hlt
        obtain ⟨_, _, _, hec, lc, cas⟩ := (HC.out.hCA wr HE.out).nm (by rw [HC.out.hcx]; omega)
        simp only [Value.slice.injEq, Option.some.injEq, Addr.mk.injEq, and_true] at hec
        obtain ⟨⟨rfl, rfl⟩, hec9, rfl⟩ := hec
        clear hec9
        obtain ⟨_, _, _, hed, ld, cds⟩ := (HC.out.hCB wr HE.out).nm (by rw [HC.out.hcy]; omega)
        simp only [Value.slice.injEq, Option.some.injEq, Addr.mk.injEq, and_true] at hed
        obtain ⟨⟨rfl, rfl⟩, hed9, rfl⟩ := hed
        clear hed9
        have cm := cas m (by rw [HC.out.hcx]; exact hmn)
        have ck := cds k (by rw [HC.out.hcy]; exact hlt)
        obtain ⟨sa, pam, hsa⟩ := HC.out.hPA wr HE.out m hmn
        obtain ⟨sb, pbk, hsb⟩ := HC.out.hPB wr HE.out k hlt
        have lpa := lt_of_cell pam
        have lpb := lt_of_cell pbk
        dsimp only at lpa lpb
        have HSA := Lib.hid hsa
        have HSB := Lib.hid hsb
        obtain ⟨V1, hV1⟩ : ∃ V, nmOf cx (m : Int) = V := ⟨_, rfl⟩
        obtain ⟨V2, hV2⟩ : ∃ V, nmOf cy (k : Int) = V := ⟨_, rfl⟩
        have hGK := HGK.out k
        rw [show colB cx cy m k = decide (V1 = V2) from by unfold colB; rw [hV1, hV2]] at hGK
        rw [hV1] at cm
        rw [hV2] at ck
        obtain ⟨UC, hUC⟩ : ∃ C, nets.contains (k : Int) = C := ⟨_, rfl⟩
        have HFK := Lib.hid (show UC = false → goodN n (nets ++ [(k : Int)]) from fun q => ⟨by
          rw [List.nodup_append]
          exact ⟨HG.out.1, by simp, fun a ha b hb e => by
            rw [List.mem_singleton] at hb
            subst e; subst hb
            rw [q] at hUC
            simp at hUC
            exact hUC ha⟩, fun z hz => by
          rcases List.mem_append.1 hz with h | h
          · exact HG.out.2 z h
          · rw [List.mem_singleton] at h; omega⟩)
        have HUC := Lib.hid hUC
        rw [hUC] at cU hGK
        obtain ⟨PA', hPA'⟩ : ∃ P, portTo x.ps (m : Int) x.ps.length = P := ⟨_, rfl⟩
        obtain ⟨PB', hPB'⟩ : ∃ P, portTo y.ps (k : Int) y.ps.length = P := ⟨_, rfl⟩
        have HFS1 := Lib.hid (show UC = false → fitB x y (nets ++ [(k : Int)]) = (decide (PA' = PB') && fitI x y (nets ++ [(k : Int)])) from fun q => by rw [← hPA', ← hPB']; exact HFS.out k (HFK.out q))
        rw [hPA'] at HSA
        rw [hPB'] at HSB
        have HSE := Lib.hid (fun w h h' => slicesEqual_any sa sb PA' PB' w h h')
        obtain ⟨PE, hPE⟩ : ∃ P : Bool, decide (PA' = PB') = P := ⟨_, rfl⟩
        rw [hPE] at HFS1 HSE
        obtain ⟨CE, hCE⟩ : ∃ P : Bool, decide (V1 = V2) = P := ⟨_, rfl⟩
        have HCE := Lib.hid hCE
        rw [hCE] at hGK
        have HGK1 := Lib.hid hGK
        have cMr := kM.cell
        have lMr := kM.lt
        clear cas cds hsa hsb hV1 hV2 hUC hPA' hPB' hPE hCE hGK
        go_upto_region 7 with fail
        go_cut [77] from 33 to 116 (fun cc wx => cc = .bool (!(!UC && (CE && PE))) ∧ Below wr.heap.size wr wx)
        case first =>
          cases UC with
          | true =>
            go_quiet (fail)
            go_wp2
            go_meet
            exact ⟨(by first | rfl | (cases CE <;> cases PE <;> rfl)), blwT⟩
          | false =>
            cases CE with
            | false =>
              have hvv : ¬ V1 = V2 := of_decide_eq_false HCE.out
              have j1 : (V1 != V2) = true := by simpa using hvv
              have j2 : (V1 == V2) = false := by simpa using hvv
              clear hvv
              go_quiet (fail)
              go_wp2
              go_meet
              exact ⟨(by first | rfl | (cases PE <;> rfl)), blwT⟩
            | true =>
              obtain rfl : V1 = V2 := of_decide_eq_true HCE.out
              have j1 : (V1 != V1) = false := by simp
              have j2 : (V1 == V1) = true := by simp
              go_quiet ((go_at_call 43; exact Calls.quiet_of (HSE.out _ (HSA.out.by (below_of_drewN wr _)) (HSB.out.by (below_of_drewN wr _)))))
              go_wp2
              go_meet
              exact ⟨(by first | rfl | (cases PE <;> rfl)), blwT⟩
        case rest =>
          obtain ⟨rfl, hbc⟩ := hcut
          have kM2 := Blk.by hbc kM
          have HB2 := Lib.hid ((HB.out.by hbc).wideN hbc.size (Nat.le_refl _))
          have HU2 := Lib.hid (HU.out.by hbc)
          have HE2 := Lib.hid (HE.out.on (Exc.ofBelow hbc))
          have HY2 := Lib.hid (HC.out.hYs _ _ _ HY.out HOZ.out (Exc.ofBelow hbc))
          have hsz2 : J ≤ wc.heap.size := Nat.le_trans hsz hbc.size
          clear kM HB HU HE HY cMr lMr cm ck cU fU lU pam pbk lpa lpb HSA HSB HSE lc ld hbc hsz
          obtain ⟨K, hK⟩ : ∃ K, (!UC && (CE && PE)) = K := ⟨_, rfl⟩
          rw [hK]
          cases K with
          | false =>
            have HG0 := Lib.hid (show G k = [] from by
              rw [HGK1.out]
              refine if_neg (fun h => ?_)
              simp only [Bool.and_eq_true, Bool.not_eq_true'] at h
              have h2 := h.2.2
              rw [HFS1.out h.2.1, Bool.and_eq_true] at h2
              rw [h.1, h.2.1, h2.1] at hK
              cases hK)
            clear hK
            go_wp2
            exact ⟨⟨k + 1, .slice an m cn, by omega, by go_num, kM2, HB2, HU2, HE2, Lib.hid (by rw [HNX.out, HG0.out, List.append_nil]; exact HY2.out), Lib.hid (fun h => by rw [HNX.out, HG0.out, HO1.out h]; rfl)⟩, by simp [intOf]; omega⟩
          | true =>
            have hq : UC = false ∧ CE = true ∧ PE = true := by cases UC <;> cases CE <;> cases PE <;> simp_all
            have HGT := Lib.hid (show G k = if fitI x y (nets ++ [(k : Int)]) = true then srch (fitB x y) (colB cx cy) n one r (nets ++ [(k : Int)]) else [] from by
              rw [HGK1.out, HFS1.out hq.1, hq.1, hq.2.1, hq.2.2]
              simp)
            have HGD := Lib.hid (HFK.out hq.1)
            have HFB := Lib.hid (show fitI x y (nets ++ [(k : Int)]) = true → fitB x y (nets ++ [(k : Int)]) = true from fun h => by rw [HFS1.out hq.1, hq.2.2, h]; rfl)
            rw [hq.1] at HUC
            clear hK hq HGK1 HFS1 HFK HCE
            have hMU2 : ¬ U = M := fun e => hMU e.symm
            obtain ⟨cU, fU, lU⟩ := HU2.out.cell hlt
            have cM2 := kM2.cell
            have lM2 := kM2.lt
            have hE4 : Exc (fun b => b = M ∨ b = U ∨ J ≤ b) wc ((wc.setCell ⟨U, k, none⟩ (.bool true)).alloc (.cells #[.int .i64 (k : Int)] 2)) := ((Exc.refl _ _).set U k _ (fun _ => .inr (.inl rfl))).alloc _
            have hE4u : Exc (fun b => b = U) wc ((wc.setCell ⟨U, k, none⟩ (.bool true)).alloc (.cells #[.int .i64 (k : Int)] 2)) := (Exc.set (E := fun b => b = U) (Exc.refl _ _) U k _ (fun _ => rfl)).alloc _
            have kN4 : Blk ((wc.setCell ⟨U, k, none⟩ (.bool true)).alloc (.cells #[.int .i64 (k : Int)] 2)) wc.heap.size #[.int .i64 (k : Int)] 2 := Blk.new _ (by simp)
            have kM4 := hE4u.blk kM2 (show ¬ M = U from hMU)
            have HU4 := Lib.hid ((HU2.out.add hlt).by ((Below.refl _ (wc.setCell ⟨U, k, none⟩ (.bool true))).alloc (Nat.le_refl _) (.cells #[.int .i64 (k : Int)] 2)))
            have HB4 := Lib.hid (BldI.exc hE4u HB2.out (fun q h1 h2 (e : q = U) => by omega))
            have HE4 := Lib.hid hE4
            have hs4 : wc.heap.size + 1 = ((wc.setCell ⟨U, k, none⟩ (.bool true)).alloc (.cells #[.int .i64 (k : Int)] 2)).heap.size := by simp
            have HS4 := Lib.hid hs4
            clear hE4 hE4u hs4 HU2
            go_wp2_with (refine list_pushG2 (by rfl) _ _ (by rfl) J wc.heap.size m (.slice an m cn) nets HM.out (k : Int) (by rfl) HB4.out wc.heap.size (by rfl) kN4 (by omega) (by omega) ?_; intro g5 c5 w5 hB5 hW5; have kM5 := hW5.blk kM4 (.inl (by omega)); have c5M := kM5.cell; have f5M := kM5.free; have l5M := kM5.lt; have HB5 := Lib.hid hB5; have HW5 := Lib.hid hW5; clear hB5 hW5)
            have kM6 : Blk (w5.setCell ⟨M, 11, none⟩ (.slice (some ⟨g5, 0, none⟩) (m + 1) c5)) M #[.int .i64 (n : Int), A1, A2, .int .i64 nb, B1, B2, .slice (some ⟨cb, co, none⟩) n cc, C2, .slice (some ⟨db, dd, none⟩) n dc, D2, DB, .slice (some ⟨g5, 0, none⟩) (m + 1) c5, .slice (some ⟨U, 0, none⟩) n n, .func (.func gY) #[] lbY, .slice (some ⟨NA, 0, none⟩) n n, .slice (some ⟨NB, 0, none⟩) n n] 79 := kM5.set 11 _
            have hX6 : Exc (fun b => b = M ∨ b = U ∨ J ≤ b) wc (w5.setCell ⟨M, 11, none⟩ (.slice (some ⟨g5, 0, none⟩) (m + 1) c5)) := (HE4.out.on (Exc.ofWithin HW5.out (fun q h1 h2 => .inr (.inr h1)))).set M 11 _ (fun _ => .inl rfl)
            have HU6 := Lib.hid (UsedB.exc (E := fun b => b = M) ((Exc.refl _ w5).set M 11 (.slice (some ⟨g5, 0, none⟩) (m + 1) c5) (fun _ => rfl)) (UsedB.exc (E := fun b => J ≤ b) (Exc.ofWithin HW5.out (fun q h1 h2 => h1)) HU4.out (by omega)) (fun (e : U = M) => hMU2 e))
            have HB6 : Hid (BldI (w5.setCell ⟨M, 11, none⟩ (.slice (some ⟨g5, 0, none⟩) (m + 1) c5)) J (w5.setCell ⟨M, 11, none⟩ (.slice (some ⟨g5, 0, none⟩) (m + 1) c5)).heap.size (.slice (some ⟨g5, 0, none⟩) (m + 1) c5) (nets ++ [(k : Int)])) := Lib.hid (by
              have h2 := BldI.exc (E := fun b => b = M) ((Exc.refl _ w5).set M 11 (.slice (some ⟨g5, 0, none⟩) (m + 1) c5) (fun _ => rfl)) HB5.out (fun q h1 h2 (e : q = M) => by omega)
              simpa using h2)
            generalize w5.setCell ⟨M, 11, none⟩ (.slice (some ⟨g5, 0, none⟩) (m + 1) c5) = w6 at *
            have hE6 := HE2.out.thn hX6 (fun q hq h => by
              rcases h with h | h | h
              · exact .inl h
              · exact .inr (.inl h)
              · have := HC.out.hJ; omega)
            have hY6 := HC.out.hYs _ _ _ HY2.out HOZ.out hX6
            have hs6 : J ≤ w6.heap.size := by rw [← HC.out.hJ]; exact hE6.size
            have HE6 := Lib.hid hE6
            have HY6 := Lib.hid hY6
            clear hE6 hY6 hX6 HE4 HW5 HB5 HU4 HB4 kM4 kN4 kM5 c5M f5M l5M cU fU lU cM2 lM2 kM2 HB2 HE2 HY2 HS4
            refine (fits_any x y (nets ++ [(k : Int)]) M U n lo hi (m + 1) (n : Int) nb A1 A2 B1 B2 (.slice (some ⟨cb, co, none⟩) n cc) C2 (.slice (some ⟨db, dd, none⟩) n dc) D2 DB (.slice (some ⟨g5, 0, none⟩) (m + 1) c5) (.func (.func gY) #[] lbY) (.slice (some ⟨NA, 0, none⟩) n n) (.slice (some ⟨NB, 0, none⟩) n n) w6 kM6 (HC.out.hA w6 HE6.out) (HC.out.hD w6 HE6.out) (Nat.le_trans HC.out.hlo hs6) HB6.out.own.sl (by rw [List.length_append, HM.out]; rfl) HU6.out HPX.out HPY.out HC.out.hlx HC.out.hly (by omega) hn24).mono ?_
            rintro e w7 ⟨rfl, hb7⟩
            have kM7 := Blk.by hb7 kM6
            have HB7 := Lib.hid ((HB6.out.by hb7).wideN hb7.size (Nat.le_refl _))
            have HU7 := Lib.hid (HU6.out.by hb7)
            have HE7 := Lib.hid (HE6.out.on (Exc.ofBelow hb7))
            have HY7 := Lib.hid (HC.out.hYs _ _ _ HY6.out HOZ.out (Exc.ofBelow hb7))
            have hs7 : J ≤ w7.heap.size := Nat.le_trans hs6 hb7.size
            clear hb7 kM6 HB6 HU6 HE6 HY6 hs6
            cases hF : fitI x y (nets ++ [(k : Int)]) with
            | false =>
              have HG0 := Lib.hid (show G k = [] from by rw [HGT.out, hF, if_neg (by simp)])
              have HY8 := Lib.hid (show Yd (zs ++ srTo G one (k + 1)) w7 from by rw [HNX.out, HG0.out, List.append_nil]; exact HY7.out)
              have HO8 := Lib.hid (show (one = true → zs ++ srTo G one (k + 1) = []) ∧ (one = true → srTo G one (k + 1) = []) from ⟨fun h => by rw [HO.out h, HNX.out, HG0.out, HO1.out h]; rfl, fun h => by rw [HNX.out, HG0.out, HO1.out h]; rfl⟩)
              obtain ⟨NV8, hNV8⟩ : ∃ NV, Value.slice (some ⟨g5, 0, none⟩) (m + 1) c5 = NV := ⟨_, rfl⟩
              rw [hNV8] at kM7 HB7
              clear hF hNV8 HY7
              obtain ⟨w8, rfl⟩ : ∃ z : World, z = w7 := ⟨_, rfl⟩
              have kM8 := kM7
              have HB8 := HB7
              have HU8 := HU7
              have HE8 := HE7
              clear kM7 HB7 HU7 HE7
              obtain ⟨g9, c9, rfl, hc1, hc2⟩ := BldI.some HB8.out HM.out
              have cM9 := kM8.cell
              have fM9 := kM8.free
              have lM9 := kM8.lt
              obtain ⟨cU9, fU9, lU9⟩ := HU8.out.cell hlt
              have j3 : (m : Int) ≤ (c9 : Int) := by omega
              have j4 : m ≤ c9 := by omega
              have j5 : decide (m ≤ c9) = true := decide_eq_true j4
              have HBf : Hid (BldI ((w8.setCell ⟨M, 11, none⟩ (.slice (some ⟨g9, 0, none⟩) m c9)).setCell ⟨U, k, none⟩ (.bool false)) J ((w8.setCell ⟨M, 11, none⟩ (.slice (some ⟨g9, 0, none⟩) m c9)).setCell ⟨U, k, none⟩ (.bool false)).heap.size (.slice (some ⟨g9, 0, none⟩) m c9) nets) := Lib.hid (by
                have h1 := HB8.out
                rw [show m + 1 = (nets ++ [(k : Int)]).length from by rw [List.length_append, HM.out]; rfl] at h1
                have h2 := BldI.exc (E := fun b => b = M ∨ b = U) (((Exc.refl _ w8).set M 11 (.slice (some ⟨g9, 0, none⟩) m c9) (fun _ => .inl rfl)).set U k (.bool false) (fun _ => .inr rfl)) (BldI.cut h1 HM.out) (fun q h1 h2 h3 => by rcases h3 with rfl | rfl <;> omega)
                simpa using h2)
              have HUf := Lib.hid (UsedB.drop (UsedB.exc (E := fun b => b = M) ((Exc.refl _ w8).set M 11 (.slice (some ⟨g9, 0, none⟩) m c9) (fun _ => rfl)) HU8.out (fun (e : U = M) => hMU e.symm)) hlt HUC.out)
              have hXf : Exc (fun b => b = M ∨ b = U ∨ J ≤ b) w8 ((w8.setCell ⟨M, 11, none⟩ (.slice (some ⟨g9, 0, none⟩) m c9)).setCell ⟨U, k, none⟩ (.bool false)) := ((Exc.refl _ w8).set M 11 _ (fun _ => .inl rfl)).set U k _ (fun _ => .inr (.inl rfl))
              have HEf := Lib.hid (HE8.out.thn hXf (fun q hq h => by
                rcases h with h | h | h
                · exact .inl h
                · exact .inr (.inl h)
                · have := HC.out.hJ; omega))
              have HYf := Lib.hid (HC.out.hYs _ _ _ HY8.out HO8.out.1 hXf)
              have kMf := (kM8.set 11 (.slice (some ⟨g9, 0, none⟩) m c9)).apart U k (.bool false) hMU
              clear hXf HB8 HU8 HE8 HY8 hc1 hc2
              go_wp2
              exact ⟨⟨k + 1, .slice (some ⟨g9, 0, none⟩) m c9, by omega, by go_num, kMf, HBf, HUf, HEf, HYf, Lib.hid HO8.out.2⟩, by simp [intOf]; omega⟩
            | true =>
              have HFT := Lib.hid hF
              have HGE := Lib.hid (show srch (fitB x y) (colB cx cy) n one r (nets ++ [(k : Int)]) = G k from by rw [HGT.out, hF, if_pos rfl])
              clear hF
              go_wp2_with fail
              refine (HIH.out (nets ++ [(k : Int)]) (zs ++ srTo G one k) _ w7 kM7 HB7.out HU7.out HE7.out HY7.out HOZ.out HGD.out (by rw [List.length_append, HM.out, List.length_singleton]; omega) (HFB.out HFT.out)).mono ?_
              rw [HGE.out]
              rintro e w8 ⟨rfl, hY8, hE8, hN8⟩
              rw [List.append_assoc, ← HNX.out] at hY8
              have HY8 := Lib.hid hY8
              have HE8 := Lib.hid hE8
              have HN8 := Lib.hid hN8
              clear hY8 hE8 hN8 kM7 HB7 HU7 HE7 HY7
              cases hst : stopB one (G k) with
              | true =>
                have hq : one = true ∧ 0 < (G k).length := by
                  unfold stopB at hst
                  cases hone : one with
                  | false => rw [hone] at hst; cases hst
                  | true =>
                    rw [hone] at hst
                    refine ⟨rfl, ?_⟩
                    cases hgk : G k with
                    | nil => rw [hgk] at hst; cases hst
                    | cons a l => simp
                have HLS := Lib.hid (show srTo G one (k + 1) = LL from by
                  rw [← HS.out, show n = (k + 1) + (n - (k + 1)) by omega]
                  exact (srTo_stop hq.1 (by rw [HNX.out, List.length_append]; omega) _).symm)
                have HST := Lib.hid (show stopB one LL = true from by
                  rw [← HLS.out, HNX.out, HO1.out hq.1]
                  exact hst)
                clear hst hq
                go_wp2
                go_ret
                exact ⟨ret_bool (by rw [HST.out]; rfl), by rw [← HLS.out]; exact HY8.out, HE8.out, fun h => by rw [HST.out] at h; cases h⟩
              | false =>
                obtain ⟨NV8, kM8, hB8, hU8⟩ := HN8.out hst
                have HGN := Lib.hid (show one = true → G k = [] from fun h => by
                  rw [h] at hst
                  unfold stopB at hst
                  cases hgk : G k with
                  | nil => rfl
                  | cons a l => rw [hgk] at hst; cases hst)
                have HB8 := Lib.hid hB8
                have HU8 := Lib.hid hU8
                have HO8 := Lib.hid (show (one = true → zs ++ srTo G one (k + 1) = []) ∧ (one = true → srTo G one (k + 1) = []) from ⟨fun h => by rw [HO.out h, HNX.out, HGN.out h, HO1.out h]; rfl, fun h => by rw [HNX.out, HGN.out h, HO1.out h]; rfl⟩)
                have hs8 : J ≤ w8.heap.size := by rw [← HC.out.hJ]; exact HE8.out.size
                clear hst hB8 hU8 HN8
                obtain ⟨g9, c9, rfl, hc1, hc2⟩ := BldI.some HB8.out HM.out
                have cM9 := kM8.cell
                have fM9 := kM8.free
                have lM9 := kM8.lt
                obtain ⟨cU9, fU9, lU9⟩ := HU8.out.cell hlt
                have j3 : (m : Int) ≤ (c9 : Int) := by omega
                have j4 : m ≤ c9 := by omega
                have j5 : decide (m ≤ c9) = true := decide_eq_true j4
                have HBf : Hid (BldI ((w8.setCell ⟨M, 11, none⟩ (.slice (some ⟨g9, 0, none⟩) m c9)).setCell ⟨U, k, none⟩ (.bool false)) J ((w8.setCell ⟨M, 11, none⟩ (.slice (some ⟨g9, 0, none⟩) m c9)).setCell ⟨U, k, none⟩ (.bool false)).heap.size (.slice (some ⟨g9, 0, none⟩) m c9) nets) := Lib.hid (by
                  have h1 := HB8.out
                  rw [show m + 1 = (nets ++ [(k : Int)]).length from by rw [List.length_append, HM.out]; rfl] at h1
                  have h2 := BldI.exc (E := fun b => b = M ∨ b = U) (((Exc.refl _ w8).set M 11 (.slice (some ⟨g9, 0, none⟩) m c9) (fun _ => .inl rfl)).set U k (.bool false) (fun _ => .inr rfl)) (BldI.cut h1 HM.out) (fun q h1 h2 h3 => by rcases h3 with rfl | rfl <;> omega)
                  simpa using h2)
                have HUf := Lib.hid (UsedB.drop (UsedB.exc (E := fun b => b = M) ((Exc.refl _ w8).set M 11 (.slice (some ⟨g9, 0, none⟩) m c9) (fun _ => rfl)) HU8.out (fun (e : U = M) => hMU e.symm)) hlt HUC.out)
                have hXf : Exc (fun b => b = M ∨ b = U ∨ J ≤ b) w8 ((w8.setCell ⟨M, 11, none⟩ (.slice (some ⟨g9, 0, none⟩) m c9)).setCell ⟨U, k, none⟩ (.bool false)) := ((Exc.refl _ w8).set M 11 _ (fun _ => .inl rfl)).set U k _ (fun _ => .inr (.inl rfl))
                have HEf := Lib.hid (HE8.out.thn hXf (fun q hq h => by
                  rcases h with h | h | h
                  · exact .inl h
                  · exact .inr (.inl h)
                  · have := HC.out.hJ; omega))
                have HYf := Lib.hid (HC.out.hYs _ _ _ HY8.out HO8.out.1 hXf)
                have kMf := (kM8.set 11 (.slice (some ⟨g9, 0, none⟩) m c9)).apart U k (.bool false) hMU
                clear hXf HB8 HU8 HE8 HY8 hc1 hc2
                go_wp2
                exact ⟨⟨k + 1, .slice (some ⟨g9, 0, none⟩) m c9, by omega, by go_num, kMf, HBf, HUf, HEf, HYf, Lib.hid HO8.out.2⟩, by simp [intOf]; omega⟩
      · obtain rfl : n = k := by omega
        have i1 : ¬ (n : Int) < (n : Int) := by omega
        have hST : stopB one LL = false := by
          rw [← HS.out]
          unfold stopB
          cases hon : one with
          | false => rfl
          | true =>
            have := HO1.out hon
            rw [hon] at this
            rw [this]
            rfl
        have HST := Lib.hid hST
        clear hST
        go_wp2
        go_ret
        exact ⟨ret_bool (by rw [HST.out]; rfl), by rw [← HS.out]; exact HY.out, HE.out, fun _ => ⟨_, kM, HB.out, HU.out⟩⟩
theorem run_any (x y : Nl) (cx cy : List Int) (one : Bool) (n J M U NA NB lo hi gY : Nat) (A1 A2 B1 B2 C1 C2 D1 D2 DB : Value) (nb : Int) (lbY : Array Value) (Y : Nat → Prop) (Yd : List (List Int) → World → Prop) (wJ : World) (C : RunC x y cx cy one n J M U NA NB lo hi gY A1 A2 B1 B2 C1 C2 D1 D2 DB nb lbY Y Yd wJ) : ∀ r, RunOk x y cx cy one n J M U NA NB lo hi gY A1 A2 B1 B2 C1 C2 D1 D2 DB nb lbY Y Yd wJ r
  | 0 => run_step x y cx cy one n J M U NA NB lo hi gY A1 A2 B1 B2 C1 C2 D1 D2 DB nb lbY Y Yd wJ C 0 (fun q h => by omega)
  | r + 1 => run_step x y cx cy one n J M U NA NB lo hi gY A1 A2 B1 B2 C1 C2 D1 D2 DB nb lbY Y Yd wJ C (r + 1) (fun q h => by
    obtain rfl : r = q := by omega
    exact run_any x y cx cy one n J M U NA NB lo hi gY A1 A2 B1 B2 C1 C2 D1 D2 DB nb lbY Y Yd wJ C r)
set_option maxRecDepth 100000 in
set_option maxHeartbeats 4000000 in
theorem portsOf_any (x : Nl) (v : Value) (w : World) (h : NlV w v x) (hx : nlB x = true) :
    Calls Tryz.prog 38 #[v] w fun e w' => ∃ v', e = .returned v' ∧ LlIn w' w.heap.size w'.heap.size v' (netL x x.nets.toNat) ∧ Below w.heap.size w w' := by
  obtain ⟨⟨hn0, hn1⟩, _, hp8, _, _⟩ := nlB_facts hx
  have HPI := Lib.hid (fun (p : Pt) (hp : p ∈ x.ps) => pt_in hx hp)
  obtain ⟨s1, s2, rfl, hds, hps⟩ := h
  obtain ⟨nets, ds, ps⟩ := x
  dsimp only at *
  obtain ⟨m, rfl⟩ : ∃ n : Nat, nets = n := ⟨nets.toNat, by omega⟩
  have HP := Lib.hid hps
  obtain ⟨a1, c1, rfl⟩ := hds.sized
  obtain ⟨a2, c2, rfl⟩ := hps.sized
  obtain ⟨L, hL⟩ : ∃ L, ds.length = L := ⟨_, rfl⟩
  obtain ⟨L2, hL2⟩ : ∃ L, ps.length = L := ⟨_, rfl⟩
  rw [hL]
  rw [hL2] at HP hp8 ⊢
  have HL2 := Lib.hid hL2
  have hmt : ((m : Nat) : Int).toNat = m := by omega
  rw [hmt]
  have HST := Lib.hid (fun (net : Int) k p h => portTo_step ps net k p h)
  have HLE := Lib.hid (fun (net : Int) k => portTo_len ps net k)
  have HC0 := Lib.hid (fun (net : Int) => show portTo ps net 0 = [] from rfl)
  have HFN := Lib.hid (show netL ⟨(m : Int), ds, ps⟩ m = (List.range m).map fun j : Nat => portTo ps (j : Int) L2 from by rw [← hL2]; rfl)
  generalize netL ⟨(m : Int), ds, ps⟩ m = RR at *
  clear hds hps hL hL2 hx hmt hn0
  obtain ⟨cs0, hcs0, hcz, hmk⟩ := make_lists m (by omega) (w.alloc (.cells #[.int .i64 (m : Int), .slice a1 L c1, .slice a2 L2 c2] 27))
  simp only [World.size_alloc] at hmk
  obtain ⟨wI, hwI⟩ : ∃ wI, wI = (w.alloc (.cells #[.int .i64 (m : Int), .slice a1 L c1, .slice a2 L2 c2] 27)).alloc (.cells cs0 30) := ⟨_, rfl⟩
  have hal : Below w.heap.size w wI := by rw [hwI]; exact ((Below.refl _ w).alloc (Nat.le_refl _) _).alloc (by simp) _
  have hsI : wI.heap.size = w.heap.size + 2 := by rw [hwI]; simp
  have kAI : Blk wI w.heap.size #[.int .i64 (m : Int), .slice a1 L c1, .slice a2 L2 c2] 27 := by rw [hwI]; exact (Blk.new _ rfl).past _
  have HNI : Hid (NetsI wI (w.heap.size + 1) (w.heap.size + 2) m (fun j : Nat => portTo ps (j : Int) 0)) := by
    apply Lib.hid
    refine ⟨cs0, fun _ => .slice none 0 0, by rw [hwI]; exact Blk.new _ (by simp), hcs0, fun j hj => ⟨hcz j hj, ?_⟩, fun i j hi hj hij g hg => by cases hg⟩
    show BldI wI (w.heap.size + 2) wI.heap.size (.slice none 0 0) (portTo ps (j : Int) 0)
    rw [HC0.out, ← hsI]
    exact BldI.nil wI _
  obtain ⟨N, hN⟩ : ∃ N, w.heap.size + 1 = N := ⟨_, rfl⟩
  have HN := Lib.hid hN
  have hNw : w.heap.size < N := by omega
  rw [show w.heap.size + 2 = N + 1 by omega] at HNI hsI
  rw [hN] at HNI hmk
  clear hcs0 hcz hN
  go_enter Tryz.func38, Tryz.ntmps38
  go_wp2
  clear hmk
  (try rw [HN.out])
  (try rw [← hwI])
  clear hwI
  go_loopw [12] (fun i wr => ∃ k : Nat, k ≤ L2 ∧ i = .int .i64 (k : Int) ∧ Hid (NetsI wr N (N + 1) m (fun j : Nat => portTo ps (j : Int) k)) ∧ N < wr.heap.size ∧ Blk wr w.heap.size #[.int .i64 (m : Int), .slice a1 L c1, .slice a2 L2 c2] 27 ∧ Below w.heap.size w wr) (fun i _ => L2 - (intOf i).toNat)
  case atStart => exact ⟨0, Nat.zero_le _, rfl, HNI, by omega, kAI, hal⟩
  case round =>
    clear HNI hal hsI kAI
    obtain ⟨k, hk, rfl, HNI, hNs, kA, hb⟩ := hrel
    by_cases hlt : k < L2
    · obtain ⟨p, hp⟩ : ∃ p, ps[k]? = some p := ⟨_, List.getElem?_eq_getElem (by rw [HL2.out]; exact hlt)⟩
      obtain ⟨hz0, hz1⟩ := HPI.out p (List.mem_of_getElem? hp)
      obtain ⟨name, net⟩ := p
      dsimp only at hz0 hz1
      obtain ⟨r, rfl⟩ : ∃ r : Nat, net = r := ⟨net.toNat, by omega⟩
      have hrm : r < m := by omega
      rcases HP.out with ⟨_, _, _, e2⟩ | ⟨b, off, cap, he, _, _, h4⟩
      · rw [e2] at hp; simp at hp
      obtain ⟨rfl, rfl⟩ : a2 = some ⟨b, off, none⟩ ∧ c2 = cap := by
        simp only [Value.slice.injEq] at he
        exact ⟨he.1, he.2.2⟩
      obtain ⟨p1, p2⟩ := (h4 k _ hp).by hb
      have HSTX : Hid (∀ j : Nat, portTo ps (j : Int) (k + 1) = portTo ps (j : Int) k ++ (if (r : Int) = (j : Int) then [(k : Int)] else [])) := Lib.hid (fun j => HST.out (j : Int) k _ hp)
      have i2 : (0 : Int) ≤ (k : Int) := by omega
      have i3 : (k : Int) < (L2 : Int) := by omega
      obtain ⟨cs, vs, n1, n2, n3, n4⟩ := HNI.out
      obtain ⟨n5, n6⟩ := n3 r hrm
      (try dsimp only at n6)
      obtain ⟨Zr, hZr⟩ : ∃ Z, portTo ps (r : Int) k = Z := ⟨_, rfl⟩
      have hlen := HLE.out (r : Int) k
      rw [hZr] at n6 hlen
      have HZR := Lib.hid hZr
      obtain ⟨av, cv, hvs⟩ := n6.sized
      rw [hvs] at n5 n6
      obtain ⟨zl, hzl⟩ : ∃ z, Zr.length = z := ⟨_, rfl⟩
      rw [hzl] at n5 n6 hvs hlen
      have HZL := Lib.hid hzl
      have HVS := Lib.hid hvs
      have HN1 := Lib.hid n1
      have HN2' := Lib.hid n2
      have HN3 := Lib.hid n3
      have HN4 := Lib.hid n4
      have HN5 := Lib.hid n5
      have HN6 := Lib.hid n6
      have i4 : (0 : Int) ≤ (r : Int) := by omega
      have i5 : (r : Int) < (m : Int) := by omega
      have i6 : decide (r < m) = true := decide_eq_true hrm
      clear hp h4 he n1 n2 n3 n4 n5 n6 hvs hZr hzl
      go_upto_region 5 with fail
      obtain ⟨wz, hwz⟩ : ∃ z : World, z = wr.alloc (.cells #[.string name, .int .i64 (r : Int)] 52) := ⟨_, rfl⟩
      have kP : Blk wz wr.heap.size #[.string name, .int .i64 (r : Int)] 52 := by rw [hwz]; exact Blk.new _ rfl
      have kN : Blk wz N cs 30 := by rw [hwz]; exact HN1.out.past _
      have hbz : Below wr.heap.size wr wz := by rw [hwz]; exact (Below.refl _ wr).alloc (Nat.le_refl _) _
      have hsz : wz.heap.size = wr.heap.size + 1 := by rw [hwz]; simp
      have kAz := Blk.by hbz kA
      have HBZ := Lib.hid (HN6.out.by hbz)
      have HSZ := Lib.hid hsz
      have hs1 : wr.heap.size < wz.heap.size := by omega
      (try rw [← hwz])
      clear hwz hsz
      have hS : (fun w' : World => Blk w' wr.heap.size #[.string name, .int .i64 (r : Int)] 52 ∧ Blk w' N cs 30) { wz with drawn := wz.drawn + 1 } := ⟨kP.drew, kN.drew⟩
      refine wp_region_any (by kernel_rfl) (wpAny_of_E (S := fun w' : World => Blk w' wr.heap.size #[.string name, .int .i64 (r : Int)] 52 ∧ Blk w' N cs 30) (l := 12) _ _ _ _ ?_)
      change wpAnyE _ _ _ _ _ _ _ _ _ wz.drew
      refine wpAnyE_takeL (i := 0) (v := ?_) rfl (by kernel_rfl) (fun _ _ _ h => h) (Or.inl ⟨by rfl, ?_⟩) hS ?_
      rotate_left
      · intro w hSw; (try dsimp only at hSw); have qP := hSw.1.cell; have qN := (hSw.2.cell r).trans HN5.out; have lP := hSw.1.lt; have lN := hSw.2.lt; clear hSw; go_simp; (try with_reducible rfl)
      try simp only [Act.put, List.setIfInBounds_toArray, List.set_cons_zero, List.set_cons_succ]
      refine wpAnyE_takeL (i := 1) (v := ?_) rfl (by kernel_rfl) (fun _ _ _ h => h) (Or.inl ⟨by rfl, ?_⟩) hS ?_
      rotate_left
      · intro w hSw; (try dsimp only at hSw); have qP := hSw.1.cell; have qN := (hSw.2.cell r).trans HN5.out; have lP := hSw.1.lt; have lN := hSw.2.lt; clear hSw; go_simp; (try with_reducible rfl)
      try simp only [Act.put, List.setIfInBounds_toArray, List.set_cons_zero, List.set_cons_succ]
      refine wpAnyE_takeL (i := 2) (v := ?_) rfl (by kernel_rfl) (fun _ _ _ h => h) (Or.inl ⟨by rfl, ?_⟩) hS ?_
      rotate_left
      · intro w hSw; (try dsimp only at hSw); have qP := hSw.1.cell; have qN := (hSw.2.cell r).trans HN5.out; have lP := hSw.1.lt; have lN := hSw.2.lt; clear hSw; go_simp; (try with_reducible rfl)
      try simp only [Act.put, List.setIfInBounds_toArray, List.set_cons_zero, List.set_cons_succ]
      refine wpAnyE_takeL (i := 3) (v := ?_) rfl (by kernel_rfl) (fun _ _ _ h => h) (Or.inl ⟨by rfl, ?_⟩) hS ?_
      rotate_left
      · intro w hSw; (try dsimp only at hSw); have qP := hSw.1.cell; have qN := (hSw.2.cell r).trans HN5.out; have lP := hSw.1.lt; have lN := hSw.2.lt; clear hSw; go_simp; (try with_reducible rfl)
      try simp only [Act.put, List.setIfInBounds_toArray, List.set_cons_zero, List.set_cons_succ]
      refine wpAnyE_takeL (i := 4) (v := ?_) rfl (by kernel_rfl) (fun _ _ _ h => h) (Or.inl ⟨by rfl, ?_⟩) hS ?_
      rotate_left
      · intro w hSw; (try dsimp only at hSw); have qP := hSw.1.cell; have qN := (hSw.2.cell r).trans HN5.out; have lP := hSw.1.lt; have lN := hSw.2.lt; clear hSw; go_simp; (try with_reducible rfl)
      try simp only [Act.put, List.setIfInBounds_toArray, List.set_cons_zero, List.set_cons_succ]
      refine wpAnyE_takeL (i := 5) (v := ?_) rfl (by kernel_rfl) (fun _ _ _ h => h) (Or.inl ⟨by rfl, ?_⟩) hS ?_
      rotate_left
      · intro w hSw; (try dsimp only at hSw); have qP := hSw.1.cell; have qN := (hSw.2.cell r).trans HN5.out; have lP := hSw.1.lt; have lN := hSw.2.lt; clear hSw; go_simp; (try with_reducible rfl)
      try simp only [Act.put, List.setIfInBounds_toArray, List.set_cons_zero, List.set_cons_succ]
      refine wpAnyE_takeL (i := 6) (v := ?_) rfl (by kernel_rfl) (fun _ _ _ h => h) (Or.inl ⟨by rfl, ?_⟩) hS ?_
      rotate_left
      · intro w hSw; (try dsimp only at hSw); have qP := hSw.1.cell; have qN := (hSw.2.cell r).trans HN5.out; have lP := hSw.1.lt; have lN := hSw.2.lt; clear hSw; go_simp; (try with_reducible rfl)
      try simp only [Act.put, List.setIfInBounds_toArray, List.set_cons_zero, List.set_cons_succ]
      refine wpAnyE_takeL (i := 7) (v := ?_) rfl (by kernel_rfl) (fun _ _ _ h => h) (Or.inl ⟨by rfl, ?_⟩) hS ?_
      rotate_left
      · intro w hSw; (try dsimp only at hSw); have qP := hSw.1.cell; have qN := (hSw.2.cell r).trans HN5.out; have lP := hSw.1.lt; have lN := hSw.2.lt; clear hSw; go_simp; (try with_reducible rfl)
      try simp only [Act.put, List.setIfInBounds_toArray, List.set_cons_zero, List.set_cons_succ]
      refine wpAnyE_takeL (i := 8) (v := ?_) rfl (by kernel_rfl) (fun _ _ _ h => h) (Or.inl ⟨by rfl, ?_⟩) hS ?_
      rotate_left
      · intro w hSw; (try dsimp only at hSw); have qP := hSw.1.cell; have qN := (hSw.2.cell r).trans HN5.out; have lP := hSw.1.lt; have lN := hSw.2.lt; clear hSw; go_simp; (try with_reducible rfl)
      try simp only [Act.put, List.setIfInBounds_toArray, List.set_cons_zero, List.set_cons_succ]
      refine wpAnyE_oneL (k := 9) (by kernel_rfl) rfl (fun K hK => ?_)
      go_simp
      have kN9 : Blk (wz.alloc (.cells #[.int .i64 (k : Int)] 2)).drew wz.heap.size #[.int .i64 (k : Int)] 2 := (Blk.new _ rfl).drew
      have hb9 : Below wz.heap.size wz (wz.alloc (.cells #[.int .i64 (k : Int)] 2)).drew := ((Below.refl _ wz).alloc (Nat.le_refl _) _).drew
      have hsz9 : (wz.alloc (.cells #[.int .i64 (k : Int)] 2)).drew.heap.size = wz.heap.size + 1 := by simp [World.size_drew]
      have HSZ9 := Lib.hid hsz9
      have hs9 : wz.heap.size < (wz.alloc (.cells #[.int .i64 (k : Int)] 2)).drew.heap.size := by omega
      clear hsz9
      have kP9 := Blk.by hb9 kP
      have kNN9 := Blk.by hb9 kN
      have HB9 := Lib.hid (HBZ.out.by hb9)
      have kA9 := Blk.by hb9 kAz
      have hb9r : Below wr.heap.size wr (wz.alloc (.cells #[.int .i64 (k : Int)] 2)).drew := below_on hb9 hbz
      generalize (wz.alloc (.cells #[.int .i64 (k : Int)] 2)).drew = wn at *
      clear hS hb9
      refine hK.out _ _ (fun _ => ⟨kP9, kNN9⟩) ?_
      try simp only [Act.put, List.setIfInBounds_toArray, List.set_cons_zero, List.set_cons_succ]
      refine wpAnyE_oneL (k := 10) (by kernel_rfl) rfl (fun K hK => ?_)
      refine step_pushG (by rfl) _ _ (by rfl) (N + 1) wr.heap.size (.slice av zl cv) Zr [(k : Int)] (by rfl) HB9.out wz.heap.size 1 #[.int .i64 (k : Int)] (by rfl) rfl (by omega) kN9 rfl (by omega) (by rw [HZL.out]; omega) ?_
      intro g5 c5 w5 hB5 hk5 ho5 hw5
      rw [HZL.out] at hB5 ⊢
      have kP5 := hw5.blk kP9 (by omega)
      have kN5 := hw5.blk kNN9 (by omega)
      have kA5 := hw5.blk kA9 (by omega)
      have hs5 := hw5.size
      refine hK.out _ _ (fun _ => ⟨kP5, kN5⟩) ?_
      try simp only [Act.put, List.setIfInBounds_toArray, List.set_cons_zero, List.set_cons_succ]
      have HB5 := Lib.hid hB5
      have HK5 := Lib.hid hk5
      have HO5 := Lib.hid ho5
      have HW5 := Lib.hid hw5
      have l5 := kN5.lt
      have c5N := (kN5.cell r).trans HN5.out
      have f5 := kN5.free
      clear hB5 hk5 ho5 hw5
      refine wpAnyE_oneL (k := 11) (by kernel_rfl) rfl (fun K hK => ?_)
      go_simp
      refine hK.out _ _ (fun _ => ⟨kP5, kN5⟩) ?_
      try simp only [Act.put, List.setIfInBounds_toArray, List.set_cons_zero, List.set_cons_succ]
      refine wpAnyE_oneL (k := 12) (by kernel_rfl) rfl (fun K hK => ?_)
      go_simp
      refine hK.out _ _ (fun h => absurd rfl h) ?_
      refine wpAnyE_done (by kernel_rfl) ?_ _
      have hbf : Below w.heap.size w w5 := HW5.out.below (below_on hb9r hb) (by omega)
      have hlst : portTo ps (r : Int) (k + 1) = Zr ++ [(k : Int)] := by rw [HSTX.out, if_pos rfl, HZR.out]
      have hlen2 : (Zr ++ [(k : Int)]).length = zl + 1 := by simp [HZL.out]
      have hold : ∀ q, q < wr.heap.size → (Value.slice av zl cv).ownBlock ≠ some q → w5.heap[q]? = wr.heap[q]? := fun q hq hne => (HK5.out q (by omega) hne).trans (hb9r.block q hq)
      have hfin := NetsI.grow (lst := (fun j : Nat => portTo ps (j : Int) k)) (lst' := (fun j : Nat => portTo ps (j : Int) (k + 1))) (g := g5) (cap := c5) HN1.out HN2'.out HN3.out HN4.out hrm (by omega) (by
        (try dsimp only)
        rw [hlst, hlen2]
        exact HB5.out) (by rw [HVS.out]; exact hold) (by rw [HVS.out]; exact HO5.out.imp id (fun e => by have := HSZ9.out; omega)) (by omega) (fun i hi => by
        (try dsimp only)
        rw [HSTX.out, if_neg (by omega), List.append_nil])
      (try dsimp only at hfin)
      rw [hlst, hlen2] at hfin
      have HFIN := Lib.hid hfin
      have kA6 := kA5.apart N r (.slice (some ⟨g5, 0, none⟩) (zl + 1) c5) (by omega)
      have hb6 : Below w.heap.size w (w5.setCell ⟨N, r, none⟩ (.slice (some ⟨g5, 0, none⟩) (zl + 1) c5)) := hbf.setCell (show w.heap.size ≤ N by omega) _
      clear hfin hold hlst hlen2 hbf kP5 kN5 kA5
      go_wp2
      exact ⟨⟨k + 1, by omega, by go_num, HFIN, by simp; omega, kA6, hb6⟩, by simp [intOf]; omega⟩
    · obtain rfl : k = L2 := by omega
      have i2 : ¬ (k : Int) < (k : Int) := by omega
      go_wp2
      go_ret
      refine ⟨_, rfl, ?_, hb⟩
      rw [HFN.out]
      obtain ⟨cs, vs, n1, n2, n3, n4⟩ := HNI.out
      refine ⟨N, cs, by simp, by omega, n1, by simp; omega, fun j xs hx => ?_⟩
      have hj : j < m := by have := (List.getElem?_eq_some_iff.1 hx).1; simpa using this
      rw [List.getElem?_map, List.getElem?_range hj] at hx
      simp only [Option.map_some, Option.some.injEq] at hx
      subst hx
      exact ⟨vs j, (n3 j hj).1, OwnR.wide' (n3 j hj).2.own (by omega) (Nat.le_refl _)⟩
end Go.Proofs.YtehmiekendkjmaaGreat
