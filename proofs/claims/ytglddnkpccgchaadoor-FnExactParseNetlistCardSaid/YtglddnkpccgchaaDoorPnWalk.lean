/- The walk of FnExactParseNetlist. -/
import Derived.Test.YtglddnkpccgchaaDoorSpecPn
import Derived.Test.YtglddnkpccgchaaDoorImplPn
import Derived.Test.YtglddnkpccgchaaDoorNls
import Derived.Test.YtglddnkpccgchaaDoorMarks
import Derived.Test.YtglddnkpccgchaaDoorStrOpen
import Derived.Deep.DeepCutAuto
namespace Go.Proofs.YtglddnkpccgchaaDoor.fnExactParseNetlist
open Go.RowKit Go.Proofs.YtglddnkpccgchaaDoor
set_option linter.unusedVariables false
set_option linter.unusedSimpArgs false

theorem _root_.Go.Proofs.YtglddnkpccgchaaDoor.Tab10.up2 {B B' : Nat} {w : World} (h : Tab10 B w) (hB : B ≤ B') : Tab10 B' w := fun w' hb => h w' (hb.mono hB)
theorem _root_.Go.Proofs.YtglddnkpccgchaaDoor.Glob.up {B B' : Nat} {w : World} (h : Glob B w) (hB : B ≤ B') : Glob B' w := ⟨h.1.up2 hB, Nat.lt_of_lt_of_le h.2.1 hB, h.2.2⟩
/-- What is read is nothing, or valid. -/
theorem prsL_valid : ∀ (L : List (List UInt8)) (i : Nat) (x : Nl), nlB x = true → nlB (prsL i x L).1 = true
  | [], i, x, h => h
  | [l], i, x, h => by
    unfold prsL
    split
    · exact h
    · exact nlB_nl0
  | l :: m :: r, i, x, h => by
    unfold prsL
    split
    · exact nlB_nl0
    · split
      · rename_i h2
        exact prsL_valid (m :: r) (i + 1) _ h2
      · exact nlB_nl0
theorem dsum_small2 (ds : List Dv) (h : ∀ d ∈ ds, d.pins.length ≤ 3) : dsum ds ≤ 6 * ds.length := by
  induction ds with
  | nil => simp [dsum]
  | cons d ds ih =>
    have := ih (fun e he => h e (by simp [he]))
    have := h d (by simp)
    simp only [dsum, List.length_cons]; omega
theorem prsS_bounds (s : ByteArray) : (∀ d ∈ (prsS s).1.ds, d.pins.length ≤ 1048576) ∧ nsum (prsS s).1 ≤ 4000000 := by
  have h := prsL_valid (splL 10 s.data.toList) 0 nl0 nlB_nl0
  have h2 : nlB (prsS s).1 = true := h
  obtain ⟨h3, h4, h5, h6, h7⟩ := nlB_facts h2
  refine ⟨fun d hd => by have := (dvB_pins (h6 d hd)).1; omega, ?_⟩
  have := dsum_small2 (prsS s).1.ds (fun d hd => (dvB_pins (h6 d hd)).1)
  unfold nsum
  omega

set_option maxRecDepth 100000 in
set_option maxHeartbeats 8000000 in
theorem walk (v0 : Value) (w : World) (s : ByteArray) (h0 : IsStr v0 s) (hG : Glob w.heap.size w) :
    Calls Tryd.prog 4 #[v0] w fun e w' => e = .returned (.bool true) ∧ Below w.heap.size w w' := by
  obtain ⟨rfl, -⟩ := h0
  by_cases hbig : 1048576 < s.size
  · have i1 : decide ((1048576 : Int) < (s.size : Int)) = true := decide_eq_true (by omega)
    clear hbig hG
    go_enter Tryd.func4, Tryd.ntmps4
    go_wp2
    go_ret
    exact ⟨rfl, Below.refl _ _⟩
  have i1 : decide ((1048576 : Int) < (s.size : Int)) = false := decide_eq_false (by omega)
  have HSP := Lib.hid (fun w => specParse_any s w (by omega))
  have HIM := Lib.hid (fun w hG => implParse_any s w (by omega) hG)
  have hyb := prsS_bounds s
  have HG := Lib.hid hG
  clear hbig hG
  generalize (prsS s).1 = y at *
  generalize (prsS s).2.1 = p0 at *
  generalize (prsS s).2.2 = p1 at *
  have hyn : nsum y ≤ 4000000 := hyb.2
  have HEQ := Lib.hid (fun v1 v2 w h1 h2 => eqNetlist_refl v1 v2 y w h1 h2)
  have HMY0 : ∀ lo hi v w, OwnNl w lo hi v y → hi ≤ w.heap.size → Calls Tryd.prog 13 #[v, .int .i64 1] w fun e w' => e = .returned (.int .i64 ((1 + nsum y : Nat) : Int)) ∧ OwnNl w' lo hi v (markNl 1 y) ∧ Within lo hi w w' := fun lo hi v w h hl => markNetlist_any lo hi v y 1 w h hl hyb.1 (by omega) (by omega)
  have HHY0 : ∀ v w, NlV w v (markNl 1 y) → Calls Tryd.prog 14 #[v, .int .i64 1] w fun e w' => e = .returned (.int .i64 ((1 + nsum y : Nat) : Int)) ∧ Below w.heap.size w w' := fun v w h => heldNetlist_any v y 1 w h hyb.1 (by omega) (by omega)
  obtain ⟨my, hmy⟩ : ∃ m : Nat, 1 + nsum y = m := ⟨_, rfl⟩
  rw [hmy] at HMY0 HHY0
  have hmy0 : decide ((my : Int) < 0) = false := decide_eq_false (by omega)
  have HMY := Lib.hid HMY0
  have HHY := Lib.hid HHY0
  clear HMY0 HHY0 hmy hyn hyb
  go_enter Tryd.func4, Tryd.ntmps4
  go_wp2_with fail
  refine (HSP.out _).mono ?_
  rintro e t1 ⟨v, rfl, hN, hb1⟩
  obtain ⟨aW, cW, dW, eW, rfl⟩ := hN.sized
  have hal : Below t1.heap.size t1 (t1.alloc (.cells #[.int .i64 y.nets, .slice aW y.ds.length cW, .slice dW y.ps.length eW] 31)) := (Below.refl _ t1).alloc (Nat.le_refl _) _
  have HW := Lib.hid (hN.by hal)
  have hbW := below_on hal hb1
  have kW : Blk (t1.alloc (.cells #[.int .i64 y.nets, .slice aW y.ds.length cW, .slice dW y.ps.length eW] 31)) t1.heap.size #[.int .i64 y.nets, .slice aW y.ds.length cW, .slice dW y.ps.length eW] 31 := Blk.new _ rfl
  have HG1 := Lib.hid ((HG.out.on hbW).up hbW.size)
  clear hN hal hb1
  have qW := kW.cell
  have lW := kW.lt
  go_wp2_with fail
  clear qW lW
  generalize t1.alloc (.cells #[.int .i64 y.nets, .slice aW y.ds.length cW, .slice dW y.ps.length eW] 31) = t2 at *
  generalize t1.heap.size = WB at *
  refine (HIM.out t2 HG1.out).mono ?_
  rintro e t3 ⟨v, rfl, hO, hb3⟩
  obtain ⟨aG, cG, dG, eG, rfl⟩ := hO.nl.sized
  have hal : Below t3.heap.size t3 (t3.alloc (.cells #[.int .i64 y.nets, .slice aG y.ds.length cG, .slice dG y.ps.length eG] 31)) := (Below.refl _ t3).alloc (Nat.le_refl _) _
  have hsG := hb3.size
  have hb4 := below_on hal hb3
  have OG := Lib.hid (hO.by hal)
  have kG : Blk (t3.alloc (.cells #[.int .i64 y.nets, .slice aG y.ds.length cG, .slice dG y.ps.length eG] 31)) t3.heap.size #[.int .i64 y.nets, .slice aG y.ds.length cG, .slice dG y.ps.length eG] 31 := Blk.new _ rfl
  clear hO hal hb3
  have kW4 := Blk.by hb4 kW
  have HW4 := Lib.hid (HW.out.by hb4)
  have qW := kW4.cell
  have lW := kW4.lt
  have qG := kG.cell
  have lG := kG.lt
  go_wp2_with fail
  clear qW lW qG lG
  generalize t3.alloc (.cells #[.int .i64 y.nets, .slice aG y.ds.length cG, .slice dG y.ps.length eG] 31) = t4 at *
  generalize t3.heap.size = GB at *
  refine (HEQ.out _ _ t4 OG.out.nl HW4.out).mono ?_
  rintro e t5 ⟨rfl, hb5⟩
  replace hb4 := below_on hb5 hb4
  replace OG := Lib.hid (OG.out.by hb5)
  replace kG := Blk.by hb5 kG
  clear kW4 HW4 hb5
  have kW5 := Blk.by hb4 kW
  have qW := kW5.cell
  have lW := kW5.lt
  have qG := kG.cell
  have lG := kG.lt
  go_wp2_with fail
  clear qW lW qG
  refine (HMY.out _ _ _ _ OG.out (by omega)).mono ?_
  rintro e t6 ⟨rfl, hO, hw6⟩
  replace OG := Lib.hid hO
  replace kG := hw6.blk kG (by omega)
  replace hb4 := hw6.below hb4 (by omega)
  clear hO hw6 kW5 lG
  have kW6 := Blk.by hb4 kW
  have qW := kW6.cell
  have lW := kW6.lt
  have qG := kG.cell
  have lG := kG.lt
  go_wp2_with fail
  clear qW lW qG lG kW6
  refine (HHY.out _ _ OG.out.nl).mono ?_
  rintro e t7 ⟨rfl, hb7⟩
  replace OG := Lib.hid (OG.out.by hb7)
  replace kG := Blk.by hb7 kG
  replace hb4 := below_on hb7 hb4
  clear hb7
  have kW7 := Blk.by hb4 kW
  have qW := kW7.cell
  have lW := kW7.lt
  have qG := kG.cell
  have lG := kG.lt
  go_wp2_with fail
  clear qW lW qG lG kW7
  have hbw7 := below_on hb4 hbW
  have HG7 := Lib.hid ((HG.out.on hbw7).up hbw7.size)
  refine (HIM.out t7 HG7.out).mono ?_
  rintro e t8 ⟨v, rfl, hO, hb8⟩
  obtain ⟨aH, cH, dH, eH, rfl⟩ := hO.nl.sized
  have hal : Below t8.heap.size t8 (t8.alloc (.cells #[.int .i64 y.nets, .slice aH y.ds.length cH, .slice dH y.ps.length eH] 31)) := (Below.refl _ t8).alloc (Nat.le_refl _) _
  have hb9 := below_on hal hb8
  have HH := Lib.hid (hO.nl.by hal)
  have kH : Blk (t8.alloc (.cells #[.int .i64 y.nets, .slice aH y.ds.length cH, .slice dH y.ps.length eH] 31)) t8.heap.size #[.int .i64 y.nets, .slice aH y.ds.length cH, .slice dH y.ps.length eH] 31 := Blk.new _ rfl
  replace OG := Lib.hid (OG.out.by hb9)
  replace kG := Blk.by hb9 kG
  replace hb4 := below_on hb9 hb4
  clear hO hal hb8 hb9 hbw7
  have kW9 := Blk.by hb4 kW
  have HW9 := Lib.hid (HW.out.by hb4)
  have qW := kW9.cell
  have lW := kW9.lt
  have qG := kG.cell
  have lG := kG.lt
  have qH := kH.cell
  have lH := kH.lt
  go_wp2_with fail
  clear qW lW qG lG qH lH
  generalize t8.alloc (.cells #[.int .i64 y.nets, .slice aH y.ds.length cH, .slice dH y.ps.length eH] 31) = t9 at *
  generalize t8.heap.size = HB at *
  refine (HEQ.out _ _ t9 HH.out HW9.out).mono ?_
  rintro e t10 ⟨rfl, hb10⟩
  replace OG := Lib.hid (OG.out.by hb10)
  replace kG := Blk.by hb10 kG
  replace hb4 := below_on hb10 hb4
  clear hb10 kW9 HW9 kH
  have kW9 := Blk.by hb4 kW
  have qW := kW9.cell
  have lW := kW9.lt
  have qG := kG.cell
  have lG := kG.lt
  go_wp2_with fail
  clear qW lW qG lG
  refine (HHY.out _ _ OG.out.nl).mono ?_
  rintro e t11 ⟨rfl, hb11⟩
  have hbf := below_on hb11 (below_on hb4 hbW)
  go_wp2
  go_ret
  exact ⟨rfl, hbf⟩
end Go.Proofs.YtglddnkpccgchaaDoor.fnExactParseNetlist
