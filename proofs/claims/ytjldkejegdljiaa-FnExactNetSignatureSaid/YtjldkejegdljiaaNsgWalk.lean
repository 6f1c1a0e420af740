/- The walk of FnExactNetSignature. -/
import Derived.Test.YtjldkejegdljiaaNetX
import Derived.Test.YtjldkejegdljiaaNSigX
import Derived.Test.YtjldkejegdljiaaPairOwnColoring
import Derived.Test.YtjldkejegdljiaaInts
import Derived.Test.YtjldkejegdljiaaNlOwn
import Derived.Test.YtjldkejegdljiaaNls
import Derived.Test.YtjldkejegdljiaaNsum
import Derived.Deep.DeepCutAuto
import Derived.Deep.RegionHeld3
namespace Go.Proofs.Ytjldkejegdljiaa.fnExactNetSignature
open Go.RowKit Go.Proofs.Ytjldkejegdljiaa
set_option linter.unusedVariables false
set_option linter.unusedSimpArgs false

set_option maxRecDepth 100000 in
set_option maxHeartbeats 16000000 in
theorem walk (v0 : Value) (v1 : Value) (v2 : Value) (w : World) (x : Nl) (w0 : IsNlV w v0 x) (c : (List Int × List Int)) (w1 : IsCoV w v1 c) (k : Int) (w2 : IsI64 v2 k) :
    Calls Try.prog 6 #[v0, v1, v2] w fun e w' => e = .returned (.bool true) ∧ Below w.heap.size w w' := by
  obtain ⟨hV0, h0f, h0d, h0p⟩ := w0
  obtain ⟨hV1, h1z, h1y⟩ := w1
  obtain ⟨rfl, kb⟩ := w2
  have HSZ0 := fun w h => szNl_any v0 x 1048576 w h h0p (by omega) (by omega)
  by_cases hbig : (1048576 : Int) < nlSize x.ds x.ps
  · simp only [if_pos hbig] at HSZ0
    have HZ0 := Lib.hid HSZ0
    clear HSZ0 hbig
    have HV0 := Lib.hid hV0
    have HV1 := Lib.hid hV1
    obtain ⟨a0, c0, a0d, c0d, rfl⟩ := hV0.sized
    obtain ⟨a1, c1, a1d, c1d, rfl⟩ := hV1.sized
    clear hV0 hV1
    go_enter Try.func6, Try.ntmps6
    go_wp2_with fail
    refine (HZ0.out _ (HV0.out.by (by ((repeat (first | (with_reducible exact Below.refl _ _) | (with_reducible refine below_drewN ?_ _) | (with_reducible refine Below.drew ?_) | (with_reducible refine below_al ?_ _) | (with_reducible refine below_on (by assumption) ?_) | ((with_reducible refine Below.setCell ?_ ?_ _); rotate_left; focus (first | omega | (simp; done) | (simp; omega))) | (with_reducible assumption))); done)))).mono ?_
    rintro e s0 ⟨rfl, hb⟩
    go_wp2
    go_ret
    exact ⟨rfl, (by ((repeat (first | (with_reducible exact Below.refl _ _) | (with_reducible refine below_drewN ?_ _) | (with_reducible refine Below.drew ?_) | (with_reducible refine below_al ?_ _) | (with_reducible refine below_on (by assumption) ?_) | ((with_reducible refine Below.setCell ?_ ?_ _); rotate_left; focus (first | omega | (simp; done) | (simp; omega))) | (with_reducible assumption))); done))⟩
  simp only [if_neg hbig] at HSZ0
  obtain ⟨n0a, n0b, n0c⟩ := nlSize_bounds (x := x) (by omega)
  have hbg0 : nlSize x.ds x.ps ≤ 1048576 := by omega
  have hxn0 : nsum x ≤ 4000000 := nsum_le hbg0
  have hsn0 : 0 ≤ nlSize x.ds x.ps := by exact nlSize_nonneg _
  obtain ⟨l0, hl0⟩ : ∃ l : Int, (1048576 : Int) - nlSize x.ds x.ps = l := ⟨_, rfl⟩
  have hl0a : 0 ≤ l0 := by omega
  have hl0b : l0 ≤ 1048576 := by omega
  rw [hl0] at HSZ0
  have HZ0 := Lib.hid HSZ0
  clear HSZ0 hbig hl0 hsn0
  have HSZ1 := fun w h => szColoring_any v1 c l0 w h (by omega) (by omega)
  by_cases hbig : (l0 : Int) < ((c.1.length : Int) + c.2.length)
  · simp only [if_pos hbig] at HSZ1
    have HZ1 := Lib.hid HSZ1
    clear HSZ1 hbig
    have HV0 := Lib.hid hV0
    have HV1 := Lib.hid hV1
    obtain ⟨a0, c0, a0d, c0d, rfl⟩ := hV0.sized
    obtain ⟨a1, c1, a1d, c1d, rfl⟩ := hV1.sized
    clear hV0 hV1
    go_enter Try.func6, Try.ntmps6
    go_wp2_with fail
    refine (HZ0.out _ (HV0.out.by (by ((repeat (first | (with_reducible exact Below.refl _ _) | (with_reducible refine below_drewN ?_ _) | (with_reducible refine Below.drew ?_) | (with_reducible refine below_al ?_ _) | (with_reducible refine below_on (by assumption) ?_) | ((with_reducible refine Below.setCell ?_ ?_ _); rotate_left; focus (first | omega | (simp; done) | (simp; omega))) | (with_reducible assumption))); done)))).mono ?_
    rintro e s0 ⟨rfl, hb⟩
    have kA0 : Blk s0 (w.heap.size) #[.int .i64 x.nets, .slice a0 x.ds.length c0, .slice a0d x.ps.length c0d] 25 := (by ((repeat (first | (with_reducible assumption) | (with_reducible refine Blk.drewN ?_ _) | (with_reducible refine Blk.drew ?_) | ((with_reducible refine Blk.new _ ?_); focus (first | omega | (simp; done) | (simp; omega))) | (with_reducible refine Blk.past ?_ _) | ((with_reducible refine Blk.apart ?_ _ _ _ ?_); rotate_left; focus (first | omega | (simp; done) | (simp; omega))) | (with_reducible refine Blk.by (by assumption) ?_))); done))
    have kA1 : Blk s0 (w.heap.size + 1) #[.slice a1 c.1.length c1, .slice a1d c.2.length c1d] 49 := (by ((repeat (first | (with_reducible assumption) | (with_reducible refine Blk.drewN ?_ _) | (with_reducible refine Blk.drew ?_) | ((with_reducible refine Blk.new _ ?_); focus (first | omega | (simp; done) | (simp; omega))) | (with_reducible refine Blk.past ?_ _) | ((with_reducible refine Blk.apart ?_ _ _ _ ?_); rotate_left; focus (first | omega | (simp; done) | (simp; omega))) | (with_reducible refine Blk.by (by assumption) ?_))); done))
    have hW : Below w.heap.size w s0 := (by ((repeat (first | (with_reducible exact Below.refl _ _) | (with_reducible refine below_drewN ?_ _) | (with_reducible refine Below.drew ?_) | (with_reducible refine below_al ?_ _) | (with_reducible refine below_on (by assumption) ?_) | ((with_reducible refine Below.setCell ?_ ?_ _); rotate_left; focus (first | omega | (simp; done) | (simp; omega))) | (with_reducible assumption))); done))
    clear hb 
    have cA0 := kA0.cell
    have cA1 := kA1.cell
    go_wp2_with fail
    refine (HZ1.out _ (HV1.out.by hW)).mono ?_
    rintro e s1 ⟨rfl, hb⟩
    go_wp2
    go_ret
    exact ⟨rfl, (by ((repeat (first | (with_reducible exact Below.refl _ _) | (with_reducible refine below_drewN ?_ _) | (with_reducible refine Below.drew ?_) | (with_reducible refine below_al ?_ _) | (with_reducible refine below_on (by assumption) ?_) | ((with_reducible refine Below.setCell ?_ ?_ _); rotate_left; focus (first | omega | (simp; done) | (simp; omega))) | (with_reducible assumption))); done))⟩
  simp only [if_neg hbig] at HSZ1
  have n1a : c.1.length ≤ 1048576 := by omega
  have n1b : c.2.length ≤ 1048576 := by omega
  have hxn1 : prsum c ≤ 4000000 := by unfold prsum; omega
  have hsn1 : 0 ≤ ((c.1.length : Int) + c.2.length) := by omega
  obtain ⟨l1, hl1⟩ : ∃ l : Int, (l0 : Int) - ((c.1.length : Int) + c.2.length) = l := ⟨_, rfl⟩
  have hl1a : 0 ≤ l1 := by omega
  have hl1b : l1 ≤ 1048576 := by omega
  rw [hl1] at HSZ1
  have HZ1 := Lib.hid HSZ1
  clear HSZ1 hbig hl1 hsn1
  have HTO0 := Lib.hid (fun v w h => toNetlist_nl v x w h n0a n0b n0c)
  have HTOO0 := Lib.hid (fun v w h => toNetlist_own v x w h (by omega) (by first | exact n0b | exact n0c | (intro d hd; have := n0b d hd; omega)) (by omega))
  have HEQ0 := Lib.hid (fun v1 v2 w h1 h2 => eqNetlist_refl v1 v2 x w h1 h2)
  have HTO1 := Lib.hid (fun v w h => toColoring_any v c w h n1a n1b)
  have HTOO1 := Lib.hid (fun v w h => toColoring_pr v c w h n1a n1b)
  have HEQ1 := Lib.hid (fun v1 v2 w h1 h2 => eqColoring_refl v1 v2 c w h1 h2)
  have HSP := Lib.hid (fun u0 u1 w h0 h1 => specNSig_any x c k u0 u1 w h0 h1 h0p h0f)
  have HIM := Lib.hid (fun u0 u1 w h0 h1 => implNSig_any x c k u0 u1 w h0 h1 h0p h0f)
  have HMX00 : ∀ lo hi v w, OwnNl w lo hi v x → hi ≤ w.heap.size → Calls Try.prog 12 #[v, .int .i64 1] w fun e w' => e = .returned (.int .i64 ((1 + nsum x : Nat) : Int)) ∧ OwnNl w' lo hi v (markNl 1 x) ∧ Within lo hi w w' := fun lo hi v w h hl => markNetlist_any lo hi v x 1 w h hl (by first | exact n0b | (intro d hd; have := n0b d hd; omega)) (by omega) (by omega)
  obtain ⟨mx0, hmx0⟩ : ∃ m : Nat, 1 + nsum x = m := ⟨_, rfl⟩
  have hmx0a : 0 < mx0 ∧ mx0 ≤ 4000001 := by omega
  rw [hmx0] at HMX00
  have HMX0 := Lib.hid HMX00
  clear HMX00 hmx0
  have HMX10 : ∀ lo hi v w, OwnPr w lo hi v c → hi ≤ w.heap.size → Calls Try.prog 29 #[v, .int .i64 (mx0 : Int)] w fun e w' => e = .returned (.int .i64 ((mx0 + prsum c : Nat) : Int)) ∧ OwnPr w' lo hi v (markPr mx0 c) ∧ Within lo hi w w' := fun lo hi v w h hl => markColoring_any lo hi v c mx0 w h hl ⟨n1a, n1b⟩ (by omega) (by omega)
  obtain ⟨mx1, hmx1⟩ : ∃ m : Nat, mx0 + prsum c = m := ⟨_, rfl⟩
  have hmx1a : 0 < mx1 ∧ mx1 ≤ 8000002 := by omega
  rw [hmx1] at HMX10
  have HMX1 := Lib.hid HMX10
  clear HMX10 hmx1
  have hmx0 : decide ((mx1 : Int) < 0) = false := decide_eq_false (by omega)
  have hyb := length_netS x c k
  generalize netS x c k = y at *
  have hyn : y.length ≤ 4000000 := by omega
  have HEQY := Lib.hid (fun v1 v2 w h1 h2 => eqInts_refl v1 v2 y w h1 h2)
  have HMY0 : ∀ lo hi v w, OwnR w lo hi v y → Calls Try.prog 21 #[v, .int .i64 1] w fun e w' => e = .returned (.int .i64 ((1 + y.length : Nat) : Int)) ∧ OwnR w' lo hi v (marks 1 y.length) ∧ Within lo hi w w' := fun lo hi v w h => markInts_any lo hi v y 1 w h hyb (by omega) (by omega)
  have HHY0 : ∀ v w, IntSl w v (marks 1 y.length) → Calls Try.prog 30 #[v, .int .i64 1] w fun e w' => e = .returned (.int .i64 ((1 + y.length : Nat) : Int)) ∧ Below w.heap.size w w' := fun v w h => heldInts_any v y 1 w h hyb (by omega) (by omega)
  obtain ⟨my, hmy⟩ : ∃ m : Nat, 1 + y.length = m := ⟨_, rfl⟩
  rw [hmy] at HMY0 HHY0
  have hmy0 : decide ((my : Int) < 0) = false := decide_eq_false (by omega)
  have HMY := Lib.hid HMY0
  have HHY := Lib.hid HHY0
  have HV0 := Lib.hid hV0
  have HV1 := Lib.hid hV1
  obtain ⟨a0, c0, a0d, c0d, rfl⟩ := hV0.sized
  obtain ⟨a1, c1, a1d, c1d, rfl⟩ := hV1.sized
  clear HMY0 HHY0 hmy hyn hyb hV0 h0f h0d h0p n0a n0b n0c hV1 h1z h1y n1a n1b hxn0 hbg0 hxn1
  go_enter Try.func6, Try.ntmps6
  go_wp2_with fail
  refine (HZ0.out _ (HV0.out.by (by ((repeat (first | (with_reducible exact Below.refl _ _) | (with_reducible refine below_drewN ?_ _) | (with_reducible refine Below.drew ?_) | (with_reducible refine below_al ?_ _) | (with_reducible refine below_on (by assumption) ?_) | ((with_reducible refine Below.setCell ?_ ?_ _); rotate_left; focus (first | omega | (simp; done) | (simp; omega))) | (with_reducible assumption))); done)))).mono ?_
  rintro e s0 ⟨rfl, hb⟩
  have kA0 : Blk s0 (w.heap.size) #[.int .i64 x.nets, .slice a0 x.ds.length c0, .slice a0d x.ps.length c0d] 25 := (by ((repeat (first | (with_reducible assumption) | (with_reducible refine Blk.drewN ?_ _) | (with_reducible refine Blk.drew ?_) | ((with_reducible refine Blk.new _ ?_); focus (first | omega | (simp; done) | (simp; omega))) | (with_reducible refine Blk.past ?_ _) | ((with_reducible refine Blk.apart ?_ _ _ _ ?_); rotate_left; focus (first | omega | (simp; done) | (simp; omega))) | (with_reducible refine Blk.by (by assumption) ?_))); done))
  have kA1 : Blk s0 (w.heap.size + 1) #[.slice a1 c.1.length c1, .slice a1d c.2.length c1d] 49 := (by ((repeat (first | (with_reducible assumption) | (with_reducible refine Blk.drewN ?_ _) | (with_reducible refine Blk.drew ?_) | ((with_reducible refine Blk.new _ ?_); focus (first | omega | (simp; done) | (simp; omega))) | (with_reducible refine Blk.past ?_ _) | ((with_reducible refine Blk.apart ?_ _ _ _ ?_); rotate_left; focus (first | omega | (simp; done) | (simp; omega))) | (with_reducible refine Blk.by (by assumption) ?_))); done))
  have hW : Below w.heap.size w s0 := (by ((repeat (first | (with_reducible exact Below.refl _ _) | (with_reducible refine below_drewN ?_ _) | (with_reducible refine Below.drew ?_) | (with_reducible refine below_al ?_ _) | (with_reducible refine below_on (by assumption) ?_) | ((with_reducible refine Below.setCell ?_ ?_ _); rotate_left; focus (first | omega | (simp; done) | (simp; omega))) | (with_reducible assumption))); done))
  clear hb 
  have cA0 := kA0.cell
  have cA1 := kA1.cell
  go_wp2_with fail
  refine (HZ1.out _ (HV1.out.by hW)).mono ?_
  rintro e s1 ⟨rfl, hb⟩
  replace kA0 := Blk.by hb kA0
  replace kA1 := Blk.by hb kA1
  replace hW := below_on hb hW
  clear hb cA0 cA1
  have cA0 := kA0.cell
  have cA1 := kA1.cell
  clear cA0 cA1
  have qA0 := kA0.cell
  have lA0 := kA0.lt
  have qA1 := kA1.cell
  have lA1 := kA1.lt
  go_wp2_with fail
  go_region_held3 (fun w' => (Blk w' (w.heap.size) #[.int .i64 x.nets, .slice a0 x.ds.length c0, .slice a0d x.ps.length c0d] 25 ∧ ∀ o, w'.cell? ⟨w.heap.size, o, none⟩ = (#[.int .i64 x.nets, .slice a0 x.ds.length c0, .slice a0d x.ps.length c0d] : Array Value)[o]?) ∧ (Blk w' (w.heap.size + 1) #[.slice a1 c.1.length c1, .slice a1d c.2.length c1d] 49 ∧ ∀ o, w'.cell? ⟨w.heap.size + 1, o, none⟩ = (#[.slice a1 c.1.length c1, .slice a1d c.2.length c1d] : Array Value)[o]?) ∧ Below w.heap.size w w') (((try (obtain ⟨⟨hS0, _⟩, ⟨hS1, _⟩, hSB⟩ := hHeld)); refine ⟨Blk.both ?_, Blk.both ?_, ?_⟩ <;> first | ((repeat (first | (with_reducible assumption) | (with_reducible refine Blk.drewN ?_ _) | (with_reducible refine Blk.drew ?_) | ((with_reducible refine Blk.new _ ?_); focus (first | omega | (simp; done) | (simp; omega))) | (with_reducible refine Blk.past ?_ _) | ((with_reducible refine Blk.apart ?_ _ _ _ ?_); rotate_left; focus (first | omega | (simp; done) | (simp; omega))) | (with_reducible refine Blk.by (by assumption) ?_))); done) | ((repeat (first | (with_reducible exact Below.refl _ _) | (with_reducible refine below_drewN ?_ _) | (with_reducible refine Below.drew ?_) | (with_reducible refine below_al ?_ _) | (with_reducible refine below_on (by assumption) ?_) | ((with_reducible refine Below.setCell ?_ ?_ _); rotate_left; focus (first | omega | (simp; done) | (simp; omega))) | (with_reducible assumption))); done)))
    (first | (go_at_call 9; refine (HTO0.out _ _ (((HV0.out.by hW).by (below_of_drewN s1 1)))).mono ?_; rintro e t10 ⟨v10_, rfl, hN, hb10⟩; have HN10 := Lib.hid hN; obtain ⟨a10, c10, a10d, c10d, rfl⟩ := hN.sized; clear hN) | (go_at_call 26; refine (HTO1.out _ _ ((((HV1.out.by hW).by (below_of_drewN s1 1)).by hb10))).mono ?_; rintro e t11 ⟨v11_, rfl, hN, hb11⟩; have HN11 := Lib.hid hN; obtain ⟨a11, c11, a11d, c11d, rfl⟩ := hN.sized; clear hN) | (go_at_call 25; refine (HSP.out _ _ _ (HN10.out.by hb11) HN11.out).mono ?_; rintro e t20 ⟨v, rfl, hO, hb20⟩))
  clear qA0 lA0 qA1 lA1
  replace kA0 := Blk.by (below_of_drewN s1 1) kA0
  replace kA1 := Blk.by (below_of_drewN s1 1) kA1
  replace hW := below_on (below_of_drewN s1 1) hW
  replace kA0 := Blk.by hb10 kA0
  replace kA1 := Blk.by hb10 kA1
  replace hW := below_on hb10 hW
  replace kA0 := Blk.by hb11 kA0
  replace kA1 := Blk.by hb11 kA1
  replace hW := below_on hb11 hW
  clear hb10 hb11 HN10 HN11
  have gw := hW.size
  have gA0 := kA0.lt
  have gA1 := kA1.lt
  have hbdW := hb20.size
  replace kA0 := Blk.by hb20 kA0
  replace kA1 := Blk.by hb20 kA1
  replace hW := below_on hb20 hW
  clear hb20
  try simp only [World.size_alloc, World.size_drew, size_drewN] at hbdW hO
  obtain ⟨Wl, Wh, hbeW, hO⟩ : ∃ l h, (_ ≤ l ∧ l ≤ h ∧ h ≤ t20.heap.size) ∧ OwnR t20 l h _ y := ⟨_, _, ⟨Nat.le_refl _, hbdW, Nat.le_refl _⟩, hO⟩
  clear hbdW
  have OW := Lib.hid hO
  obtain ⟨aW, cW, rfl⟩ := hO.sl.len
  clear hO
  try generalize t11.heap.size = pp0 at *
  have qA0 := kA0.cell
  have lA0 := kA0.lt
  have qA1 := kA1.cell
  have lA1 := kA1.lt
  go_wp2_with fail
  refine (HTOO0.out _ _ (HV0.out.by hW)).mono ?_
  rintro e t30 ⟨v, rfl, hO, hb⟩
  clear qA0 lA0 qA1 lA1
  have hbdX0 := hb.size
  replace kA0 := Blk.by hb kA0
  replace kA1 := Blk.by hb kA1
  replace OW := Lib.hid (OW.out.by hb)
  replace hW := below_on hb hW
  clear hb
  try simp only [World.size_alloc, World.size_drew, size_drewN] at hbdX0 hO
  obtain ⟨X0l, X0h, hbeX0, hO⟩ : ∃ l h, (_ ≤ l ∧ l ≤ h ∧ h ≤ t30.heap.size) ∧ OwnNl t30 l h _ x := ⟨_, _, ⟨Nat.le_refl _, hbdX0, Nat.le_refl _⟩, hO⟩
  clear hbdX0
  have OX0 := Lib.hid hO
  obtain ⟨aX0, cX0, aX0d, cX0d, rfl⟩ := hO.nl.sized
  clear hO
  try generalize t20.heap.size = pp1 at *
  replace kA0 := kA0.past (.cells #[.int .i64 x.nets, .slice aX0 x.ds.length cX0, .slice aX0d x.ps.length cX0d] 30)
  replace kA1 := kA1.past (.cells #[.int .i64 x.nets, .slice aX0 x.ds.length cX0, .slice aX0d x.ps.length cX0d] 30)
  replace OW := Lib.hid (OW.out.by ((Below.refl _ t30).alloc (Nat.le_refl _) (.cells #[.int .i64 x.nets, .slice aX0 x.ds.length cX0, .slice aX0d x.ps.length cX0d] 30)))
  replace OX0 := Lib.hid (OX0.out.by ((Below.refl _ t30).alloc (Nat.le_refl _) (.cells #[.int .i64 x.nets, .slice aX0 x.ds.length cX0, .slice aX0d x.ps.length cX0d] 30)))
  have kX0 : Blk (t30.alloc (.cells #[.int .i64 x.nets, .slice aX0 x.ds.length cX0, .slice aX0d x.ps.length cX0d] 30)) t30.heap.size #[.int .i64 x.nets, .slice aX0 x.ds.length cX0, .slice aX0d x.ps.length cX0d] 30 := Blk.new _ rfl
  replace hW := below_al hW (.cells #[.int .i64 x.nets, .slice aX0 x.ds.length cX0, .slice aX0d x.ps.length cX0d] 30)
  have qA0 := kA0.cell
  have lA0 := kA0.lt
  have qA1 := kA1.cell
  have lA1 := kA1.lt
  have qX0 := kX0.cell
  have lX0 := kX0.lt
  go_wp2_with fail
  refine (HTOO1.out _ _ (HV1.out.by hW)).mono ?_
  rintro e t31 ⟨v, rfl, hO, hb⟩
  clear qA0 lA0 qA1 lA1 qX0 lX0
  have hbdX1 := hb.size
  replace kA0 := Blk.by hb kA0
  replace kA1 := Blk.by hb kA1
  replace kX0 := Blk.by hb kX0
  replace OW := Lib.hid (OW.out.by hb)
  replace OX0 := Lib.hid (OX0.out.by hb)
  replace hW := below_on hb hW
  clear hb
  try simp only [World.size_alloc, World.size_drew, size_drewN] at hbdX1 hO
  obtain ⟨X1l, X1h, hbeX1, hO⟩ : ∃ l h, (_ ≤ l ∧ l ≤ h ∧ h ≤ t31.heap.size) ∧ OwnPr t31 l h _ c := ⟨_, _, ⟨Nat.le_refl _, hbdX1, Nat.le_refl _⟩, hO⟩
  clear hbdX1
  have OX1 := Lib.hid hO
  obtain ⟨aX1, cX1, aX1d, cX1d, rfl⟩ := hO.co.sized
  clear hO
  try generalize t30.heap.size = pp2 at *
  replace kA0 := kA0.past (.cells #[.slice aX1 c.1.length cX1, .slice aX1d c.2.length cX1d] 52)
  replace kA1 := kA1.past (.cells #[.slice aX1 c.1.length cX1, .slice aX1d c.2.length cX1d] 52)
  replace kX0 := kX0.past (.cells #[.slice aX1 c.1.length cX1, .slice aX1d c.2.length cX1d] 52)
  replace OW := Lib.hid (OW.out.by ((Below.refl _ t31).alloc (Nat.le_refl _) (.cells #[.slice aX1 c.1.length cX1, .slice aX1d c.2.length cX1d] 52)))
  replace OX0 := Lib.hid (OX0.out.by ((Below.refl _ t31).alloc (Nat.le_refl _) (.cells #[.slice aX1 c.1.length cX1, .slice aX1d c.2.length cX1d] 52)))
  replace OX1 := Lib.hid (OX1.out.by ((Below.refl _ t31).alloc (Nat.le_refl _) (.cells #[.slice aX1 c.1.length cX1, .slice aX1d c.2.length cX1d] 52)))
  have kX1 : Blk (t31.alloc (.cells #[.slice aX1 c.1.length cX1, .slice aX1d c.2.length cX1d] 52)) t31.heap.size #[.slice aX1 c.1.length cX1, .slice aX1d c.2.length cX1d] 52 := Blk.new _ rfl
  replace hW := below_al hW (.cells #[.slice aX1 c.1.length cX1, .slice aX1d c.2.length cX1d] 52)
  have qA0 := kA0.cell
  have lA0 := kA0.lt
  have qA1 := kA1.cell
  have lA1 := kA1.lt
  have qX0 := kX0.cell
  have lX0 := kX0.lt
  have qX1 := kX1.cell
  have lX1 := kX1.lt
  go_wp2_with fail
  refine (HIM.out _ _ _ OX0.out.nl OX1.out.co).mono ?_
  rintro e t40 ⟨v, rfl, hO, hb⟩
  clear qA0 lA0 qA1 lA1 qX0 lX0 qX1 lX1
  have hbdG := hb.size
  replace kA0 := Blk.by hb kA0
  replace kA1 := Blk.by hb kA1
  replace kX0 := Blk.by hb kX0
  replace kX1 := Blk.by hb kX1
  replace OW := Lib.hid (OW.out.by hb)
  replace OX0 := Lib.hid (OX0.out.by hb)
  replace OX1 := Lib.hid (OX1.out.by hb)
  replace hW := below_on hb hW
  clear hb
  try simp only [World.size_alloc, World.size_drew, size_drewN] at hbdG hO
  obtain ⟨Gl, Gh, hbeG, hO⟩ : ∃ l h, (_ ≤ l ∧ l ≤ h ∧ h ≤ t40.heap.size) ∧ OwnR t40 l h _ y := ⟨_, _, ⟨Nat.le_refl _, hbdG, Nat.le_refl _⟩, hO⟩
  clear hbdG
  have OG := Lib.hid hO
  obtain ⟨aG, cG, rfl⟩ := hO.sl.len
  clear hO
  try generalize t31.heap.size = pp3 at *
  have qA0 := kA0.cell
  have lA0 := kA0.lt
  have qA1 := kA1.cell
  have lA1 := kA1.lt
  have qX0 := kX0.cell
  have lX0 := kX0.lt
  have qX1 := kX1.cell
  have lX1 := kX1.lt
  go_wp2_with fail
  refine (HEQY.out _ _ _ OG.out.sl OW.out.sl).mono ?_
  rintro e t41 ⟨rfl, hb⟩
  clear qA0 lA0 qA1 lA1 qX0 lX0 qX1 lX1
  replace kA0 := Blk.by hb kA0
  replace kA1 := Blk.by hb kA1
  replace kX0 := Blk.by hb kX0
  replace kX1 := Blk.by hb kX1
  replace OW := Lib.hid (OW.out.by hb)
  replace OX0 := Lib.hid (OX0.out.by hb)
  replace OX1 := Lib.hid (OX1.out.by hb)
  replace OG := Lib.hid (OG.out.by hb)
  replace hW := below_on hb hW
  clear hb
  try generalize t40.heap.size = pp4 at *
  have qA0 := kA0.cell
  have lA0 := kA0.lt
  have qA1 := kA1.cell
  have lA1 := kA1.lt
  have qX0 := kX0.cell
  have lX0 := kX0.lt
  have qX1 := kX1.cell
  have lX1 := kX1.lt
  go_wp2_with fail
  go_region_held3 (fun w' => (Blk w' (w.heap.size) #[.int .i64 x.nets, .slice a0 x.ds.length c0, .slice a0d x.ps.length c0d] 25 ∧ ∀ o, w'.cell? ⟨w.heap.size, o, none⟩ = (#[.int .i64 x.nets, .slice a0 x.ds.length c0, .slice a0d x.ps.length c0d] : Array Value)[o]?) ∧ (Blk w' (w.heap.size + 1) #[.slice a1 c.1.length c1, .slice a1d c.2.length c1d] 49 ∧ ∀ o, w'.cell? ⟨w.heap.size + 1, o, none⟩ = (#[.slice a1 c.1.length c1, .slice a1d c.2.length c1d] : Array Value)[o]?) ∧ (Blk w' (pp2) #[.int .i64 x.nets, .slice aX0 x.ds.length cX0, .slice aX0d x.ps.length cX0d] 30 ∧ ∀ o, w'.cell? ⟨pp2, o, none⟩ = (#[.int .i64 x.nets, .slice aX0 x.ds.length cX0, .slice aX0d x.ps.length cX0d] : Array Value)[o]?) ∧ (Blk w' (pp3) #[.slice aX1 c.1.length cX1, .slice aX1d c.2.length cX1d] 52 ∧ ∀ o, w'.cell? ⟨pp3, o, none⟩ = (#[.slice aX1 c.1.length cX1, .slice aX1d c.2.length cX1d] : Array Value)[o]?) ∧ Below w.heap.size w w') (((try (obtain ⟨⟨hS0, _⟩, ⟨hS1, _⟩, ⟨hS2, _⟩, ⟨hS3, _⟩, hSB⟩ := hHeld)); refine ⟨Blk.both ?_, Blk.both ?_, Blk.both ?_, Blk.both ?_, ?_⟩ <;> first | ((repeat (first | (with_reducible assumption) | (with_reducible refine Blk.drewN ?_ _) | (with_reducible refine Blk.drew ?_) | ((with_reducible refine Blk.new _ ?_); focus (first | omega | (simp; done) | (simp; omega))) | (with_reducible refine Blk.past ?_ _) | ((with_reducible refine Blk.apart ?_ _ _ _ ?_); rotate_left; focus (first | omega | (simp; done) | (simp; omega))) | (with_reducible refine Blk.by (by assumption) ?_))); done) | ((repeat (first | (with_reducible exact Below.refl _ _) | (with_reducible refine below_drewN ?_ _) | (with_reducible refine Below.drew ?_) | (with_reducible refine below_al ?_ _) | (with_reducible refine below_on (by assumption) ?_) | ((with_reducible refine Below.setCell ?_ ?_ _); rotate_left; focus (first | omega | (simp; done) | (simp; omega))) | (with_reducible assumption))); done)))
    (first | (go_at_call 9; refine (HTO0.out _ _ ((HV0.out.by hW).by (below_of_drewN t41 1))).mono ?_; rintro e t50 ⟨v50_, rfl, hN, hb50⟩; have HN50 := Lib.hid hN; obtain ⟨a50, c50, a50d, c50d, rfl⟩ := hN.sized; clear hN) | (go_at_call 11; refine (HEQ0.out _ _ _ ((OX0.out.nl.by (below_of_drewN t41 1)).by hb50) HN50.out).mono ?_; rintro e t51 ⟨rfl, hb51⟩))
  clear qA0 lA0 qA1 lA1 qX0 lX0 qX1 lX1
  replace kA0 := Blk.by (below_of_drewN t41 1) kA0
  replace kA1 := Blk.by (below_of_drewN t41 1) kA1
  replace kX0 := Blk.by (below_of_drewN t41 1) kX0
  replace kX1 := Blk.by (below_of_drewN t41 1) kX1
  replace OW := Lib.hid (OW.out.by (below_of_drewN t41 1))
  replace OX0 := Lib.hid (OX0.out.by (below_of_drewN t41 1))
  replace OX1 := Lib.hid (OX1.out.by (below_of_drewN t41 1))
  replace OG := Lib.hid (OG.out.by (below_of_drewN t41 1))
  replace hW := below_on (below_of_drewN t41 1) hW
  replace kA0 := Blk.by hb50 kA0
  replace kA1 := Blk.by hb50 kA1
  replace kX0 := Blk.by hb50 kX0
  replace kX1 := Blk.by hb50 kX1
  replace OW := Lib.hid (OW.out.by hb50)
  replace OX0 := Lib.hid (OX0.out.by hb50)
  replace OX1 := Lib.hid (OX1.out.by hb50)
  replace OG := Lib.hid (OG.out.by hb50)
  replace hW := below_on hb50 hW
  replace kA0 := Blk.by hb51 kA0
  replace kA1 := Blk.by hb51 kA1
  replace kX0 := Blk.by hb51 kX0
  replace kX1 := Blk.by hb51 kX1
  replace OW := Lib.hid (OW.out.by hb51)
  replace OX0 := Lib.hid (OX0.out.by hb51)
  replace OX1 := Lib.hid (OX1.out.by hb51)
  replace OG := Lib.hid (OG.out.by hb51)
  replace hW := below_on hb51 hW
  clear hb50 hb51 HN50
  have qA0 := kA0.cell
  have lA0 := kA0.lt
  have qA1 := kA1.cell
  have lA1 := kA1.lt
  have qX0 := kX0.cell
  have lX0 := kX0.lt
  have qX1 := kX1.cell
  have lX1 := kX1.lt
  go_wp2_with fail
  go_region_held3 (fun w' => (Blk w' (w.heap.size) #[.int .i64 x.nets, .slice a0 x.ds.length c0, .slice a0d x.ps.length c0d] 25 ∧ ∀ o, w'.cell? ⟨w.heap.size, o, none⟩ = (#[.int .i64 x.nets, .slice a0 x.ds.length c0, .slice a0d x.ps.length c0d] : Array Value)[o]?) ∧ (Blk w' (w.heap.size + 1) #[.slice a1 c.1.length c1, .slice a1d c.2.length c1d] 49 ∧ ∀ o, w'.cell? ⟨w.heap.size + 1, o, none⟩ = (#[.slice a1 c.1.length c1, .slice a1d c.2.length c1d] : Array Value)[o]?) ∧ (Blk w' (pp2) #[.int .i64 x.nets, .slice aX0 x.ds.length cX0, .slice aX0d x.ps.length cX0d] 30 ∧ ∀ o, w'.cell? ⟨pp2, o, none⟩ = (#[.int .i64 x.nets, .slice aX0 x.ds.length cX0, .slice aX0d x.ps.length cX0d] : Array Value)[o]?) ∧ (Blk w' (pp3) #[.slice aX1 c.1.length cX1, .slice aX1d c.2.length cX1d] 52 ∧ ∀ o, w'.cell? ⟨pp3, o, none⟩ = (#[.slice aX1 c.1.length cX1, .slice aX1d c.2.length cX1d] : Array Value)[o]?) ∧ Below w.heap.size w w') (((try (obtain ⟨⟨hS0, _⟩, ⟨hS1, _⟩, ⟨hS2, _⟩, ⟨hS3, _⟩, hSB⟩ := hHeld)); refine ⟨Blk.both ?_, Blk.both ?_, Blk.both ?_, Blk.both ?_, ?_⟩ <;> first | ((repeat (first | (with_reducible assumption) | (with_reducible refine Blk.drewN ?_ _) | (with_reducible refine Blk.drew ?_) | ((with_reducible refine Blk.new _ ?_); focus (first | omega | (simp; done) | (simp; omega))) | (with_reducible refine Blk.past ?_ _) | ((with_reducible refine Blk.apart ?_ _ _ _ ?_); rotate_left; focus (first | omega | (simp; done) | (simp; omega))) | (with_reducible refine Blk.by (by assumption) ?_))); done) | ((repeat (first | (with_reducible exact Below.refl _ _) | (with_reducible refine below_drewN ?_ _) | (with_reducible refine Below.drew ?_) | (with_reducible refine below_al ?_ _) | (with_reducible refine below_on (by assumption) ?_) | ((with_reducible refine Below.setCell ?_ ?_ _); rotate_left; focus (first | omega | (simp; done) | (simp; omega))) | (with_reducible assumption))); done)))
    (first | (go_at_call 26; refine (HTO1.out _ _ ((HV1.out.by hW).by (below_of_drewN t51 1))).mono ?_; rintro e t52 ⟨v52_, rfl, hN, hb52⟩; have HN52 := Lib.hid hN; obtain ⟨a52, c52, a52d, c52d, rfl⟩ := hN.sized; clear hN) | (go_at_call 28; refine (HEQ1.out _ _ _ ((OX1.out.co.by (below_of_drewN t51 1)).by hb52) HN52.out).mono ?_; rintro e t53 ⟨rfl, hb53⟩))
  clear qA0 lA0 qA1 lA1 qX0 lX0 qX1 lX1
  replace kA0 := Blk.by (below_of_drewN t51 1) kA0
  replace kA1 := Blk.by (below_of_drewN t51 1) kA1
  replace kX0 := Blk.by (below_of_drewN t51 1) kX0
  replace kX1 := Blk.by (below_of_drewN t51 1) kX1
  replace OW := Lib.hid (OW.out.by (below_of_drewN t51 1))
  replace OX0 := Lib.hid (OX0.out.by (below_of_drewN t51 1))
  replace OX1 := Lib.hid (OX1.out.by (below_of_drewN t51 1))
  replace OG := Lib.hid (OG.out.by (below_of_drewN t51 1))
  replace hW := below_on (below_of_drewN t51 1) hW
  replace kA0 := Blk.by hb52 kA0
  replace kA1 := Blk.by hb52 kA1
  replace kX0 := Blk.by hb52 kX0
  replace kX1 := Blk.by hb52 kX1
  replace OW := Lib.hid (OW.out.by hb52)
  replace OX0 := Lib.hid (OX0.out.by hb52)
  replace OX1 := Lib.hid (OX1.out.by hb52)
  replace OG := Lib.hid (OG.out.by hb52)
  replace hW := below_on hb52 hW
  replace kA0 := Blk.by hb53 kA0
  replace kA1 := Blk.by hb53 kA1
  replace kX0 := Blk.by hb53 kX0
  replace kX1 := Blk.by hb53 kX1
  replace OW := Lib.hid (OW.out.by hb53)
  replace OX0 := Lib.hid (OX0.out.by hb53)
  replace OX1 := Lib.hid (OX1.out.by hb53)
  replace OG := Lib.hid (OG.out.by hb53)
  replace hW := below_on hb53 hW
  clear hb52 hb53 HN52
  have qA0 := kA0.cell
  have lA0 := kA0.lt
  have qA1 := kA1.cell
  have lA1 := kA1.lt
  have qX0 := kX0.cell
  have lX0 := kX0.lt
  have qX1 := kX1.cell
  have lX1 := kX1.lt
  go_wp2_with fail
  refine (HMX0.out _ _ _ _ OX0.out (by have := kX0.lt; omega)).mono ?_
  rintro e t60 ⟨rfl, hO, hw⟩
  clear qA0 lA0 qA1 lA1 qX0 lX0 qX1 lX1
  replace kA0 := hw.blk kA0 (by omega)
  replace kA1 := hw.blk kA1 (by omega)
  replace kX0 := hw.blk kX0 (by omega)
  replace kX1 := hw.blk kX1 (by omega)
  replace OW := Lib.hid (OW.out.past hw (by omega))
  replace OX1 := Lib.hid (OX1.out.past hw (by omega))
  replace OG := Lib.hid (OG.out.past hw (by omega))
  replace hW := hw.below hW (by omega)
  replace OX0 := Lib.hid hO
  clear hO hw
  have qA0 := kA0.cell
  have lA0 := kA0.lt
  have qA1 := kA1.cell
  have lA1 := kA1.lt
  have qX0 := kX0.cell
  have lX0 := kX0.lt
  have qX1 := kX1.cell
  have lX1 := kX1.lt
  go_wp2_with fail
  refine (HMX1.out _ _ _ _ OX1.out (by have := kX1.lt; omega)).mono ?_
  rintro e t61 ⟨rfl, hO, hw⟩
  clear qA0 lA0 qA1 lA1 qX0 lX0 qX1 lX1
  replace kA0 := hw.blk kA0 (by omega)
  replace kA1 := hw.blk kA1 (by omega)
  replace kX0 := hw.blk kX0 (by omega)
  replace kX1 := hw.blk kX1 (by omega)
  replace OW := Lib.hid (OW.out.past hw (by omega))
  replace OX0 := Lib.hid (OX0.out.past hw (by omega))
  replace OG := Lib.hid (OG.out.past hw (by omega))
  replace hW := hw.below hW (by omega)
  replace OX1 := Lib.hid hO
  clear hO hw
  have qA0 := kA0.cell
  have lA0 := kA0.lt
  have qA1 := kA1.cell
  have lA1 := kA1.lt
  have qX0 := kX0.cell
  have lX0 := kX0.lt
  have qX1 := kX1.cell
  have lX1 := kX1.lt
  go_wp2_with fail
  refine (HEQY.out _ _ _ OG.out.sl OW.out.sl).mono ?_
  rintro e t70 ⟨rfl, hb⟩
  clear qA0 lA0 qA1 lA1 qX0 lX0 qX1 lX1
  replace kA0 := Blk.by hb kA0
  replace kA1 := Blk.by hb kA1
  replace kX0 := Blk.by hb kX0
  replace kX1 := Blk.by hb kX1
  replace OW := Lib.hid (OW.out.by hb)
  replace OX0 := Lib.hid (OX0.out.by hb)
  replace OX1 := Lib.hid (OX1.out.by hb)
  replace OG := Lib.hid (OG.out.by hb)
  replace hW := below_on hb hW
  clear hb
  have qA0 := kA0.cell
  have lA0 := kA0.lt
  have qA1 := kA1.cell
  have lA1 := kA1.lt
  have qX0 := kX0.cell
  have lX0 := kX0.lt
  have qX1 := kX1.cell
  have lX1 := kX1.lt
  go_wp2_with fail
  refine (HMY.out _ _ _ _ OG.out ).mono ?_
  rintro e t71 ⟨rfl, hO, hw⟩
  clear qA0 lA0 qA1 lA1 qX0 lX0 qX1 lX1
  replace kA0 := hw.blk kA0 (by omega)
  replace kA1 := hw.blk kA1 (by omega)
  replace kX0 := hw.blk kX0 (by omega)
  replace kX1 := hw.blk kX1 (by omega)
  replace OW := Lib.hid (OW.out.past hw (by omega))
  replace OX0 := Lib.hid (OX0.out.past hw (by omega))
  replace OX1 := Lib.hid (OX1.out.past hw (by omega))
  replace hW := hw.below hW (by omega)
  replace OG := Lib.hid hO
  clear hO hw
  have qA0 := kA0.cell
  have lA0 := kA0.lt
  have qA1 := kA1.cell
  have lA1 := kA1.lt
  have qX0 := kX0.cell
  have lX0 := kX0.lt
  have qX1 := kX1.cell
  have lX1 := kX1.lt
  go_wp2_with fail
  refine (HHY.out _ _ OG.out.sl).mono ?_
  rintro e t72 ⟨rfl, hb⟩
  clear qA0 lA0 qA1 lA1 qX0 lX0 qX1 lX1
  replace kA0 := Blk.by hb kA0
  replace kA1 := Blk.by hb kA1
  replace kX0 := Blk.by hb kX0
  replace kX1 := Blk.by hb kX1
  replace OW := Lib.hid (OW.out.by hb)
  replace OX0 := Lib.hid (OX0.out.by hb)
  replace OX1 := Lib.hid (OX1.out.by hb)
  replace OG := Lib.hid (OG.out.by hb)
  replace hW := below_on hb hW
  clear hb
  have qA0 := kA0.cell
  have lA0 := kA0.lt
  have qA1 := kA1.cell
  have lA1 := kA1.lt
  have qX0 := kX0.cell
  have lX0 := kX0.lt
  have qX1 := kX1.cell
  have lX1 := kX1.lt
  go_wp2_with fail
  go_region_held3 (fun w' => (Blk w' (w.heap.size) #[.int .i64 x.nets, .slice a0 x.ds.length c0, .slice a0d x.ps.length c0d] 25 ∧ ∀ o, w'.cell? ⟨w.heap.size, o, none⟩ = (#[.int .i64 x.nets, .slice a0 x.ds.length c0, .slice a0d x.ps.length c0d] : Array Value)[o]?) ∧ (Blk w' (w.heap.size + 1) #[.slice a1 c.1.length c1, .slice a1d c.2.length c1d] 49 ∧ ∀ o, w'.cell? ⟨w.heap.size + 1, o, none⟩ = (#[.slice a1 c.1.length c1, .slice a1d c.2.length c1d] : Array Value)[o]?) ∧ (Blk w' (pp2) #[.int .i64 x.nets, .slice aX0 x.ds.length cX0, .slice aX0d x.ps.length cX0d] 30 ∧ ∀ o, w'.cell? ⟨pp2, o, none⟩ = (#[.int .i64 x.nets, .slice aX0 x.ds.length cX0, .slice aX0d x.ps.length cX0d] : Array Value)[o]?) ∧ (Blk w' (pp3) #[.slice aX1 c.1.length cX1, .slice aX1d c.2.length cX1d] 52 ∧ ∀ o, w'.cell? ⟨pp3, o, none⟩ = (#[.slice aX1 c.1.length cX1, .slice aX1d c.2.length cX1d] : Array Value)[o]?) ∧ Below w.heap.size w w') (((try (obtain ⟨⟨hS0, _⟩, ⟨hS1, _⟩, ⟨hS2, _⟩, ⟨hS3, _⟩, hSB⟩ := hHeld)); refine ⟨Blk.both ?_, Blk.both ?_, Blk.both ?_, Blk.both ?_, ?_⟩ <;> first | ((repeat (first | (with_reducible assumption) | (with_reducible refine Blk.drewN ?_ _) | (with_reducible refine Blk.drew ?_) | ((with_reducible refine Blk.new _ ?_); focus (first | omega | (simp; done) | (simp; omega))) | (with_reducible refine Blk.past ?_ _) | ((with_reducible refine Blk.apart ?_ _ _ _ ?_); rotate_left; focus (first | omega | (simp; done) | (simp; omega))) | (with_reducible refine Blk.by (by assumption) ?_))); done) | ((repeat (first | (with_reducible exact Below.refl _ _) | (with_reducible refine below_drewN ?_ _) | (with_reducible refine Below.drew ?_) | (with_reducible refine below_al ?_ _) | (with_reducible refine below_on (by assumption) ?_) | ((with_reducible refine Below.setCell ?_ ?_ _); rotate_left; focus (first | omega | (simp; done) | (simp; omega))) | (with_reducible assumption))); done)))
    (first | (go_at_call 9; refine (HTO0.out _ _ (((HV0.out.by hW).by (below_of_drewN t72 1)))).mono ?_; rintro e t80 ⟨v80_, rfl, hN, hb80⟩; have HN80 := Lib.hid hN; obtain ⟨a80, c80, a80d, c80d, rfl⟩ := hN.sized; clear hN) | (go_at_call 26; refine (HTO1.out _ _ ((((HV1.out.by hW).by (below_of_drewN t72 1)).by hb80))).mono ?_; rintro e t81 ⟨v81_, rfl, hN, hb81⟩; have HN81 := Lib.hid hN; obtain ⟨a81, c81, a81d, c81d, rfl⟩ := hN.sized; clear hN) | (go_at_call 27; refine (HIM.out _ _ _ (HN80.out.by hb81) HN81.out).mono ?_; rintro e t90 ⟨v, rfl, hO, hb90⟩))
  clear qA0 lA0 qA1 lA1 qX0 lX0 qX1 lX1
  replace kA0 := Blk.by (below_of_drewN t72 1) kA0
  replace kA1 := Blk.by (below_of_drewN t72 1) kA1
  replace kX0 := Blk.by (below_of_drewN t72 1) kX0
  replace kX1 := Blk.by (below_of_drewN t72 1) kX1
  replace OW := Lib.hid (OW.out.by (below_of_drewN t72 1))
  replace OX0 := Lib.hid (OX0.out.by (below_of_drewN t72 1))
  replace OX1 := Lib.hid (OX1.out.by (below_of_drewN t72 1))
  replace OG := Lib.hid (OG.out.by (below_of_drewN t72 1))
  replace hW := below_on (below_of_drewN t72 1) hW
  replace kA0 := Blk.by hb80 kA0
  replace kA1 := Blk.by hb80 kA1
  replace kX0 := Blk.by hb80 kX0
  replace kX1 := Blk.by hb80 kX1
  replace OW := Lib.hid (OW.out.by hb80)
  replace OX0 := Lib.hid (OX0.out.by hb80)
  replace OX1 := Lib.hid (OX1.out.by hb80)
  replace OG := Lib.hid (OG.out.by hb80)
  replace hW := below_on hb80 hW
  replace kA0 := Blk.by hb81 kA0
  replace kA1 := Blk.by hb81 kA1
  replace kX0 := Blk.by hb81 kX0
  replace kX1 := Blk.by hb81 kX1
  replace OW := Lib.hid (OW.out.by hb81)
  replace OX0 := Lib.hid (OX0.out.by hb81)
  replace OX1 := Lib.hid (OX1.out.by hb81)
  replace OG := Lib.hid (OG.out.by hb81)
  replace hW := below_on hb81 hW
  clear hb80 hb81 HN80 HN81
  have hbdH := hb90.size
  replace kA0 := Blk.by hb90 kA0
  replace kA1 := Blk.by hb90 kA1
  replace kX0 := Blk.by hb90 kX0
  replace kX1 := Blk.by hb90 kX1
  replace OW := Lib.hid (OW.out.by hb90)
  replace OX0 := Lib.hid (OX0.out.by hb90)
  replace OX1 := Lib.hid (OX1.out.by hb90)
  replace OG := Lib.hid (OG.out.by hb90)
  replace hW := below_on hb90 hW
  clear hb90
  try simp only [World.size_alloc, World.size_drew, size_drewN] at hbdH hO
  obtain ⟨Hl, Hh, hbeH, hO⟩ : ∃ l h, (_ ≤ l ∧ l ≤ h ∧ h ≤ t90.heap.size) ∧ OwnR t90 l h _ y := ⟨_, _, ⟨Nat.le_refl _, hbdH, Nat.le_refl _⟩, hO⟩
  clear hbdH
  have OH := Lib.hid hO
  obtain ⟨aH, cH, rfl⟩ := hO.sl.len
  clear hO
  try generalize t81.heap.size = pp5 at *
  have qA0 := kA0.cell
  have lA0 := kA0.lt
  have qA1 := kA1.cell
  have lA1 := kA1.lt
  have qX0 := kX0.cell
  have lX0 := kX0.lt
  have qX1 := kX1.cell
  have lX1 := kX1.lt
  go_wp2_with fail
  refine (HEQY.out _ _ _ OH.out.sl OW.out.sl).mono ?_
  rintro e t91 ⟨rfl, hb⟩
  clear qA0 lA0 qA1 lA1 qX0 lX0 qX1 lX1
  replace kA0 := Blk.by hb kA0
  replace kA1 := Blk.by hb kA1
  replace kX0 := Blk.by hb kX0
  replace kX1 := Blk.by hb kX1
  replace OW := Lib.hid (OW.out.by hb)
  replace OX0 := Lib.hid (OX0.out.by hb)
  replace OX1 := Lib.hid (OX1.out.by hb)
  replace OG := Lib.hid (OG.out.by hb)
  replace OH := Lib.hid (OH.out.by hb)
  replace hW := below_on hb hW
  clear hb
  try generalize t90.heap.size = pp6 at *
  have qA0 := kA0.cell
  have lA0 := kA0.lt
  have qA1 := kA1.cell
  have lA1 := kA1.lt
  have qX0 := kX0.cell
  have lX0 := kX0.lt
  have qX1 := kX1.cell
  have lX1 := kX1.lt
  go_wp2_with fail
  refine (HHY.out _ _ OG.out.sl).mono ?_
  rintro e t92 ⟨rfl, hb⟩
  clear qA0 lA0 qA1 lA1 qX0 lX0 qX1 lX1
  replace kA0 := Blk.by hb kA0
  replace kA1 := Blk.by hb kA1
  replace kX0 := Blk.by hb kX0
  replace kX1 := Blk.by hb kX1
  replace OW := Lib.hid (OW.out.by hb)
  replace OX0 := Lib.hid (OX0.out.by hb)
  replace OX1 := Lib.hid (OX1.out.by hb)
  replace OG := Lib.hid (OG.out.by hb)
  replace OH := Lib.hid (OH.out.by hb)
  replace hW := below_on hb hW
  clear hb
  have qA0 := kA0.cell
  have lA0 := kA0.lt
  have qA1 := kA1.cell
  have lA1 := kA1.lt
  have qX0 := kX0.cell
  have lX0 := kX0.lt
  have qX1 := kX1.cell
  have lX1 := kX1.lt
  go_wp2
  go_ret
  exact ⟨rfl, hW⟩
end Go.Proofs.Ytjldkejegdljiaa.fnExactNetSignature
