/- Contracts and plain laws, part 5, for the statement's proof. -/
import Derived.Test.YtacbdmngcdhgoaaGreatPkRrLaw4
import Derived.Shelf.Abstract
namespace Go.Proofs.YtacbdmngcdhgoaaGreat
open Go.RowKit
set_option linter.unusedVariables false
set_option linter.unusedSimpArgs false
set_option maxRecDepth 100000 in
set_option maxHeartbeats 4000000 in
theorem parallel_any (x y : Dv) (s t : Value) (w : World) (h : IntSl w s x.pins) (h' : IntSl w t y.pins) (hs : Shp x) (ht : Shp y) :
    Calls Tryz.prog 56 #[.agg #[.int .i64 x.kind, s, .int .i64 x.wd, .int .i64 x.len], .agg #[.int .i64 y.kind, t, .int .i64 y.wd, .int .i64 y.len]] w fun e w' => e = .returned (.bool (parB x y)) ∧ Below w.heap.size w w' := by
  have HB := Lib.hid (show parB x y = (decide (x.kind = y.kind) && ((decide (x.kind = 2) || decide (gateOf x.pins = gateOf y.pins)) && ((decide (x.kind = 2) || decide (x.len = y.len)) && ((decide (curP x.pins = curP y.pins) && decide (curQ x.pins = curQ y.pins)) || (decide (curP x.pins = curQ y.pins) && decide (curQ x.pins = curP y.pins)))))) from rfl)
  have HCX := Lib.hid (fun w h => currentPins_any x s w h hs)
  have HCY := Lib.hid (fun w h => currentPins_any y t w h ht)
  have HSG := fun w h h' => sameGate_any x y s t w h h' hs ht
  have HSB := Lib.hid (show sgB x y = (decide (x.kind = 2) || decide (gateOf x.pins = gateOf y.pins)) from rfl)
  generalize parB x y = r at *
  generalize sgB x y = sg at *
  have HX := Lib.hid h
  have HY := Lib.hid h'
  obtain ⟨a, c, rfl⟩ := h.len
  obtain ⟨a', c', rfl⟩ := h'.len
  clear h h' hs ht
  generalize x.pins.length = n1 at *
  generalize y.pins.length = n2 at *
  by_cases hk : x.kind = y.kind
  · have HK := Lib.hid hk
    have HS := Lib.hid (fun w h h' => HSG w h h' hk)
    rw [hk] at HS HCX
    rw [hk]
    clear HSG hk
    rcases Bool.eq_false_or_eq_true sg with hsg | hsg
    · subst hsg
      rcases Bool.eq_false_or_eq_true (y.kind != 2) with hk2 | hk2
      · rcases Bool.eq_false_or_eq_true (x.len != y.len) with hl | hl
        · have HL := Lib.hid hl
          have HK2 := Lib.hid hk2
          go_enter Tryz.func56, Tryz.ntmps56
          go_wp2_with (go_at_call 97; refine (HS.out _ (HX.out.by blwT) (HY.out.by blwT)).mono ?_; rintro e w1 ⟨rfl, hb1⟩; have k0 : Blk w1 w.heap.size #[.int .i64 y.kind, .slice a n1 c, .int .i64 x.wd, .int .i64 x.len] 46 := blkT; have k1 : Blk w1 (w.heap.size + 1) #[.int .i64 y.kind, .slice a' n2 c', .int .i64 y.wd, .int .i64 y.len] 46 := blkT; have c0 := k0.cell; have c1 := k1.cell)
          go_ret
          exact ⟨ret_bool (by rw [HB.out, HK.out]; have h1 := HL.out; have h2 := HK2.out; simp at h1 h2; simp [h1, h2]), blwT⟩
        · have HL := Lib.hid hl
          have HK2 := Lib.hid hk2
          generalize curP x.pins = p at *
          generalize curQ x.pins = q at *
          generalize curP y.pins = p' at *
          generalize curQ y.pins = q' at *
          go_enter Tryz.func56, Tryz.ntmps56
          go_wp2_with (first | (go_at_call 97; refine (HS.out _ (HX.out.by blwT) (HY.out.by blwT)).mono ?_; rintro e w1 ⟨rfl, hb1⟩; have k0 : Blk w1 w.heap.size #[.int .i64 y.kind, .slice a n1 c, .int .i64 x.wd, .int .i64 x.len] 46 := blkT; have k1 : Blk w1 (w.heap.size + 1) #[.int .i64 y.kind, .slice a' n2 c', .int .i64 y.wd, .int .i64 y.len] 46 := blkT; have c0 := k0.cell; have c1 := k1.cell; have hW : Below w.heap.size w w1 := blwT) | (go_at_call_of 77 (Value.slice a n1 c); refine (HCX.out _ (HX.out.by hW)).mono ?_; rintro e w2 ⟨rfl, hb2⟩; replace k1 := Blk.by hb2 k1; replace hW := below_on hb2 hW; clear c1 c0; have c1 := k1.cell) | (go_at_call 77; refine (HCY.out _ (HY.out.by hW)).mono ?_; rintro e w3 ⟨rfl, hb3⟩; replace hW := below_on hb3 hW))
          all_goals
            go_ret
            exact ⟨ret_bool (by rw [HB.out, HK.out]; have h0 := HSB.out; have h1 := HL.out; have h2 := HK2.out; simp at h1 h2; simp [HK.out, h2] at h0; rw [Bool.eq_iff_iff]; simp_all), hW⟩
      · have HK2 := Lib.hid hk2
        generalize curP x.pins = p at *
        generalize curQ x.pins = q at *
        generalize curP y.pins = p' at *
        generalize curQ y.pins = q' at *
        go_enter Tryz.func56, Tryz.ntmps56
        go_wp2_with (first | (go_at_call 97; refine (HS.out _ (HX.out.by blwT) (HY.out.by blwT)).mono ?_; rintro e w1 ⟨rfl, hb1⟩; have k0 : Blk w1 w.heap.size #[.int .i64 y.kind, .slice a n1 c, .int .i64 x.wd, .int .i64 x.len] 46 := blkT; have k1 : Blk w1 (w.heap.size + 1) #[.int .i64 y.kind, .slice a' n2 c', .int .i64 y.wd, .int .i64 y.len] 46 := blkT; have c0 := k0.cell; have c1 := k1.cell; have hW : Below w.heap.size w w1 := blwT) | (go_at_call_of 77 (Value.slice a n1 c); refine (HCX.out _ (HX.out.by hW)).mono ?_; rintro e w2 ⟨rfl, hb2⟩; replace k1 := Blk.by hb2 k1; replace hW := below_on hb2 hW; clear c1 c0; have c1 := k1.cell) | (go_at_call 77; refine (HCY.out _ (HY.out.by hW)).mono ?_; rintro e w3 ⟨rfl, hb3⟩; replace hW := below_on hb3 hW))
        all_goals
          go_ret
          exact ⟨ret_bool (by rw [HB.out, HK.out]; have h2 := HK2.out; simp at h2; rw [Bool.eq_iff_iff]; simp_all), hW⟩
    · subst hsg
      go_enter Tryz.func56, Tryz.ntmps56
      go_wp2_with (go_at_call 97; refine (HS.out _ (HX.out.by blwT) (HY.out.by blwT)).mono ?_; rintro e w1 ⟨rfl, hb1⟩)
      go_ret
      exact ⟨ret_bool (by have h0 := HSB.out; simp at h0; rw [HB.out]; simp [h0]), blwT⟩
  · have hk' : (x.kind != y.kind) = true := by simpa using hk
    have HK := Lib.hid hk
    clear hk
    go_enter Tryz.func56, Tryz.ntmps56
    go_wp2
    go_ret
    exact ⟨ret_bool (by rw [HB.out]; simp [HK.out]), blwT⟩
/- l28Common. -/
/- l28Series. -/
def SerPost (n : Nl) (x y : Dv) (w : World) (e : Ending) (w' : World) : Prop := ∃ r1 : Int, e = .returned (.tuple #[.int .i64 r1, .bool (serB n x y)]) ∧ (serB n x y = true → r1 = serN x y) ∧ Below w.heap.size w w'
theorem serPre_kind {x y : Dv} (h : x.kind ≠ y.kind) : serPre x y = false := by simp [serPre, h]
theorem serPre_par {x y : Dv} (h : parB x y = true) : serPre x y = false := by simp [serPre, h]
theorem serPre_sx {x y : Dv} (h : decide (curP x.pins = curQ x.pins) = true) : serPre x y = false := by simp only [serPre, h]; simp
theorem serPre_sy {x y : Dv} (h : decide (curP y.pins = curQ y.pins) = true) : serPre x y = false := by simp only [serPre, h]; simp
/- The program's serial. -/
set_option maxRecDepth 100000 in
theorem serClosure_any (o : Pt) (net : Int) (B : Nat) (W : World) (hc : W.cell? ⟨B, 0, none⟩ = some (.int .i64 net)) :
    Calls Tryz.prog 99 #[.agg #[.string o.name, .int .i64 o.net], .pointer (some ⟨B, 0, none⟩)] W fun e w' => e = .returned (.bool (decide (o.net = net))) ∧ Below W.heap.size W w' := by
  have hB := lt_of_cell hc
  dsimp only at hB
  go_enter Tryz.func99, Tryz.ntmps99
  go_wp2
  go_ret
  exact ⟨ret_bool (by rw [Bool.eq_iff_iff]; simp), blwT⟩
theorem serContains (g : Nat) (ps : List Pt) (sv : Value) (net : Int) (B : Nat) (w : World) (h : PtSl w sv ps) (hc : w.cell? ⟨B, 0, none⟩ = some (.int .i64 net)) :
    Calls Tryz.prog 98 #[sv, .func (.func 99) #[] #[.pointer (some ⟨B, 0, none⟩)]] w fun e w' => e = .returned (.bool (portB ps net)) ∧ Below w.heap.size w w' := by
  have eg : ∀ args w, (callFunc 99 args).run Tryz.prog w = .ok (.enter 99 args) w := enters_of Tryz.func99 (by kernel_rfl) rfl
  refine containsFuncP_any 99 #[.pointer (some ⟨B, 0, none⟩)] eg (fun o => decide (o.net = net)) sv ps w h ?_
  intro W o hb _
  show Calls Tryz.prog 99 #[.agg #[.string o.name, .int .i64 o.net], .pointer (some ⟨B, 0, none⟩)] W _
  exact serClosure_any o net B W (cell_by' hb hc)
theorem serPre_sg {x y : Dv} (h : sgB x y = false) : serPre x y = false := by
  simp only [sgB, Bool.or_eq_false_iff] at h
  simp only [serPre, h]; simp
theorem serPre_wd {x y : Dv} (h : decide (x.kind = 2) = false) (h' : decide (x.wd = y.wd) = false) : serPre x y = false := by
  simp only [serPre, h, h']; simp
theorem serPre_all {x y : Dv} (h0 : x.kind = y.kind) (h : parB x y = false) (h1 : shB x = false) (h2 : shB y = false) (h3 : sgB x y = true) (h4 : x.kind = 2 ∨ x.wd = y.wd) : serPre x y = true := by
  simp only [shB] at h1 h2
  simp only [serPre, h0, h, h1, h2]
  simp only [sgB, h0] at h3
  rw [h0] at h4
  simp at h3
  rcases h4 with h4 | h4
  · simp [h4]
  · rcases h3 with h3 | h3
    · simp [h3]
    · simp [h3, h4]
theorem one_both {p q r s : Int} (h : p = r ∨ p = s) (h' : q = r ∨ q = s) : decide (comC p q r s = 1) = false := by simp [comC, h, h']
theorem one_none {p q r s : Int} (h : ¬ (p = r ∨ p = s)) (h' : ¬ (q = r ∨ q = s)) : decide (comC p q r s = 1) = false := by simp [comC, h, h']
theorem one_q {p q r s : Int} (h : ¬ (p = r ∨ p = s)) (h' : q = r ∨ q = s) : decide (comC p q r s = 1) = true ∧ comN p q r s = q := by simp [comC, comN, h, h']
theorem one_p {p q r s : Int} (h : p = r ∨ p = s) (h' : ¬ (q = r ∨ q = s)) : decide (comC p q r s = 1) = true ∧ comN p q r s = p := by simp [comC, comN, h, h']
set_option maxRecDepth 100000 in
set_option maxHeartbeats 16000000 in
theorem serial_same (n : Nl) (m : Nat) (x y : Dv) (pn qn : Nat) (su v sx sy : Value) (w : World) (hv : NlV w v n) (hu : IntSl w su (degs m n.ds)) (h : IntSl w sx x.pins) (h' : IntSl w sy y.pins) (hs : Shp x) (ht : Shp y) (hk : x.kind = y.kind)
    (hp : curP x.pins = (pn : Int)) (hq : curQ x.pins = (qn : Int)) (hpm : pn < m) (hqm : qn < m) (hm : m ≤ 24) (hpl : n.ps.length ≤ 8) :
    Calls Tryz.prog 54 #[v, su, .agg #[.int .i64 x.kind, sx, .int .i64 x.wd, .int .i64 x.len], .agg #[.int .i64 y.kind, sy, .int .i64 y.wd, .int .i64 y.len]] w (SerPost n x y w) := by
  have HX := Lib.hid h
  have HY := Lib.hid h'
  have HN := Lib.hid hv
  have HPA := fun w h h' => parallel_any x y sx sy w h h' hs ht
  have HSX := fun w h => shorted_any x sx w h hs
  have HSY := fun w h => shorted_any y sy w h ht
  have HSG := fun w h h' => sameGate_any x y sx sy w h h' hs ht hk
  have HCX := fun w h => currentPins_any x sx w h hs
  have HCY := fun w h => currentPins_any y sy w h ht
  have H1 := Lib.hid (fun h => serB_pre (n := n) (serPre_par (x := x) (y := y) h))
  have H2 := Lib.hid (fun h => serB_pre (n := n) (serPre_sx (x := x) (y := y) h))
  have H3 := Lib.hid (fun h => serB_pre (n := n) (serPre_sy (x := x) (y := y) h))
  have H4 := Lib.hid (fun h => serB_pre (n := n) (serPre_sg (x := x) (y := y) h))
  have H5 := Lib.hid (fun h h' => serB_pre (n := n) (serPre_wd (x := x) (y := y) h h'))
  have HALL := Lib.hid (serPre_all (x := x) (y := y) hk)
  have H6 := Lib.hid (@serB_one n x y)
  have H7 := Lib.hid (@serB_use n x y)
  have H8 := Lib.hid (show oneB x y = decide (comC (curP x.pins) (curQ x.pins) (curP y.pins) (curQ y.pins) = 1) from rfl)
  have H10 := Lib.hid (show serN x y = comN (curP x.pins) (curQ x.pins) (curP y.pins) (curQ y.pins) from rfl)
  have H9 := Lib.hid (fun net => show useB n net = (decide (degN n.ds net = 2) && !portB n.ps net) from rfl)
  have HSHX := Lib.hid (show shB x = decide (curP x.pins = curQ x.pins) from rfl)
  have HSHY := Lib.hid (show shB y = decide (curP y.pins = curQ y.pins) from rfl)
  have HDP := Lib.hid (degs_get m n.ds pn hpm)
  have HDQ := Lib.hid (degs_get m n.ds qn hqm)
  have HDL := Lib.hid (length_degs m n.ds)
  have HU := Lib.hid hu
  have HCF := Lib.hid (fun sv net B w h hc => serContains 0 n.ps sv net B w h hc)
  have HPS : ∃ s2, ∃ s1, v = .agg #[.int .i64 n.nets, s1, s2] ∧ PtSl w s2 n.ps := by obtain ⟨s1, s2, e1, _, e3⟩ := hv; exact ⟨s2, s1, e1, e3⟩
  have hmf : ∀ (fn : Fn) (first cap : Array Value) (w : World), (Instr.makeFunc fn first cap).run Tryz.prog w = .ok (.func fn first cap) w := fun _ _ _ _ => rfl
  obtain ⟨an, cn, an', cn', rfl⟩ := hv.sized
  obtain ⟨s2, s1, e1, hPS⟩ := HPS
  simp only [Value.agg.injEq, Array.mk.injEq, List.cons.injEq, and_true, true_and] at e1
  obtain ⟨rfl, rfl⟩ := e1
  have HPS := Lib.hid hPS
  obtain ⟨au, cu, rfl⟩ := hu.len
  rw [length_degs] at HU ⊢
  obtain ⟨a, c, rfl⟩ := h.len
  obtain ⟨a', c', rfl⟩ := h'.len
  have HPO2 := Lib.hid (show SerPost n x y w = fun e w' => ∃ r1 : Int, e = .returned (.tuple #[.int .i64 r1, .bool (serB n x y)]) ∧ (serB n x y = true → r1 = serN x y) ∧ Below w.heap.size w w' from rfl)
  generalize SerPost n x y w = PP at *
  rw [hp, hq] at HCX H8 H10 HSHX
  have hcy : ∃ r s : Int, curP y.pins = r ∧ curQ y.pins = s := ⟨_, _, rfl, rfl⟩
  obtain ⟨r, s, hr, hs'⟩ := hcy
  rw [hr, hs'] at HCY H8 H10 HSHY
  rw [hp, hq] at H2
  rw [hr, hs'] at H3
  rw [← HSHX.out] at H2
  rw [← HSHY.out] at H3
  have HONEB := Lib.hid (fun (h : (pn : Int) = r ∨ (pn : Int) = s) (h' : (qn : Int) = r ∨ (qn : Int) = s) => H8.out.trans (one_both h h'))
  have HONEN := Lib.hid (fun (h : ¬ ((pn : Int) = r ∨ (pn : Int) = s)) (h' : ¬ ((qn : Int) = r ∨ (qn : Int) = s)) => H8.out.trans (one_none h h'))
  have HONEQ := Lib.hid (fun (h : ¬ ((pn : Int) = r ∨ (pn : Int) = s)) (h' : (qn : Int) = r ∨ (qn : Int) = s) => (⟨H8.out.trans (one_q h h').1, H10.out.trans (one_q h h').2⟩ : oneB x y = true ∧ serN x y = (qn : Int)))
  have HONEP := Lib.hid (fun (h : (pn : Int) = r ∨ (pn : Int) = s) (h' : ¬ ((qn : Int) = r ∨ (qn : Int) = s)) => (⟨H8.out.trans (one_p h h').1, H10.out.trans (one_p h h').2⟩ : oneB x y = true ∧ serN x y = (pn : Int)))
  rw [hk] at HPA HSX HSG HCX
  rw [hk]
  generalize x.pins.length = n1 at *
  generalize y.pins.length = n2 at *
  replace HPA := Lib.hid HPA
  replace HSX := Lib.hid HSX
  replace HSY := Lib.hid HSY
  replace HSG := Lib.hid HSG
  replace HCX := Lib.hid HCX
  replace HCY := Lib.hid HCY
  have HKK := Lib.hid hk
  generalize parB x y = pb at *
  generalize serB n x y = sb at *
  generalize serPre x y = pr at *
  generalize oneB x y = ob at *
  generalize shB x = shx at *
  generalize shB y = shy at *
  generalize sgB x y = sg at *
  have k0 : Blk (((w.alloc (.cells #[.int .i64 n.nets, .slice an n.ds.length cn, .slice an' n.ps.length cn'] 27)).alloc (.cells #[.int .i64 y.kind, .slice a n1 c, .int .i64 x.wd, .int .i64 x.len] 46)).alloc (.cells #[.int .i64 y.kind, .slice a' n2 c', .int .i64 y.wd, .int .i64 y.len] 46)) w.heap.size #[.int .i64 n.nets, .slice an n.ds.length cn, .slice an' n.ps.length cn'] 27 := blkT
  have k1 : Blk (((w.alloc (.cells #[.int .i64 n.nets, .slice an n.ds.length cn, .slice an' n.ps.length cn'] 27)).alloc (.cells #[.int .i64 y.kind, .slice a n1 c, .int .i64 x.wd, .int .i64 x.len] 46)).alloc (.cells #[.int .i64 y.kind, .slice a' n2 c', .int .i64 y.wd, .int .i64 y.len] 46)) (w.heap.size + 1) #[.int .i64 y.kind, .slice a n1 c, .int .i64 x.wd, .int .i64 x.len] 46 := blkT
  have k2_ : Blk (((w.alloc (.cells #[.int .i64 n.nets, .slice an n.ds.length cn, .slice an' n.ps.length cn'] 27)).alloc (.cells #[.int .i64 y.kind, .slice a n1 c, .int .i64 x.wd, .int .i64 x.len] 46)).alloc (.cells #[.int .i64 y.kind, .slice a' n2 c', .int .i64 y.wd, .int .i64 y.len] 46)) (w.heap.size + 1 + 1) #[.int .i64 y.kind, .slice a' n2 c', .int .i64 y.wd, .int .i64 y.len] 46 := blkT
  have hW : Below w.heap.size w (((w.alloc (.cells #[.int .i64 n.nets, .slice an n.ds.length cn, .slice an' n.ps.length cn'] 27)).alloc (.cells #[.int .i64 y.kind, .slice a n1 c, .int .i64 x.wd, .int .i64 x.len] 46)).alloc (.cells #[.int .i64 y.kind, .slice a' n2 c', .int .i64 y.wd, .int .i64 y.len] 46)) := blwT
  have e0 := k0.cell
  have e1 := k1.cell
  have e2 := k2_.cell
  clear hv h h' hs ht hk hp hq hu hr hs' H8 H10 HSHX HSHY hPS
  cases sg with
  | false =>
    have hsb := H4.out rfl
    subst hsb
    go_enter Tryz.func54, Tryz.ntmps54
    go_wp2_with (first | (go_at_call 97; refine (HSG.out _ (HX.out.by hW) (HY.out.by hW)).mono ?_; rintro e w1 ⟨rfl, hb⟩; replace k0 := Blk.by hb k0; replace k1 := Blk.by hb k1; replace k2_ := Blk.by hb k2_; replace hW := below_on hb hW; clear hb e0 e1 e2; have e0 := k0.cell; have e1 := k1.cell; have e2 := k2_.cell; have l0 := k0.lt; have l1 := k1.lt; have l2 := k2_.lt) | (go_at_call 56; refine (HPA.out _ (HX.out.by hW) (HY.out.by hW)).mono ?_; rintro e w1 ⟨rfl, hb⟩; replace k0 := Blk.by hb k0; replace k1 := Blk.by hb k1; replace k2_ := Blk.by hb k2_; replace hW := below_on hb hW; clear hb e0 e1 e2; have e0 := k0.cell; have e1 := k1.cell; have e2 := k2_.cell; have l0 := k0.lt; have l1 := k1.lt; have l2 := k2_.lt) | (go_at_call_of 45 (Value.slice a n1 c); refine (HSX.out _ (HX.out.by hW)).mono ?_; rintro e w2 ⟨rfl, hb⟩; replace k0 := Blk.by hb k0; replace k1 := Blk.by hb k1; replace k2_ := Blk.by hb k2_; replace hW := below_on hb hW; clear hb e0 e1 e2; have e0 := k0.cell; have e1 := k1.cell; have e2 := k2_.cell; have l0 := k0.lt; have l1 := k1.lt; have l2 := k2_.lt) | (go_at_call 45; refine (HSY.out _ (HY.out.by hW)).mono ?_; rintro e w3 ⟨rfl, hb⟩; replace k0 := Blk.by hb k0; replace k1 := Blk.by hb k1; replace k2_ := Blk.by hb k2_; replace hW := below_on hb hW; clear hb e0 e1 e2; have e0 := k0.cell; have e1 := k1.cell; have e2 := k2_.cell; have l0 := k0.lt; have l1 := k1.lt; have l2 := k2_.lt) | (go_at_call_of 77 (Value.slice a n1 c); refine (HCX.out _ (HX.out.by hW)).mono ?_; rintro e w4 ⟨rfl, hb⟩; replace k0 := Blk.by hb k0; replace k1 := Blk.by hb k1; replace k2_ := Blk.by hb k2_; replace hW := below_on hb hW; clear hb e0 e1 e2; have e0 := k0.cell; have e1 := k1.cell; have e2 := k2_.cell; have l0 := k0.lt; have l1 := k1.lt; have l2 := k2_.lt) | (go_at_call 77; refine (HCY.out _ (HY.out.by hW)).mono ?_; rintro e w5 ⟨rfl, hb⟩; replace k0 := Blk.by hb k0; replace k1 := Blk.by hb k1; replace k2_ := Blk.by hb k2_; replace hW := below_on hb hW; clear hb e0 e1 e2; have e0 := k0.cell; have e1 := k1.cell; have e2 := k2_.cell; have l0 := k0.lt; have l1 := k1.lt; have l2 := k2_.lt))
    rw [HPO2.out]
    exact ⟨0, rfl, (fun h => by cases h), (by first | exact hW | exact below_al hW _)⟩
  | true =>
  rcases (by by_cases h : y.kind = 2 <;> by_cases h' : x.wd = y.wd <;> simp [h, h'] : (y.kind = 2 ∨ x.wd = y.wd) ∨ (¬ y.kind = 2 ∧ ¬ x.wd = y.wd)) with hkw | ⟨hk2, hwd⟩
  rotate_left
  · have hsb := H5.out (by rw [HKK.out]; simp [hk2]) (by simp [hwd])
    subst hsb
    have hk2' : (y.kind != 2) = true := by simpa using hk2
    have hwd' : (x.wd != y.wd) = true := by simpa using hwd
    clear hk2 hwd
    go_enter Tryz.func54, Tryz.ntmps54
    go_wp2_with (first | (go_at_call 97; refine (HSG.out _ (HX.out.by hW) (HY.out.by hW)).mono ?_; rintro e w1 ⟨rfl, hb⟩; replace k0 := Blk.by hb k0; replace k1 := Blk.by hb k1; replace k2_ := Blk.by hb k2_; replace hW := below_on hb hW; clear hb e0 e1 e2; have e0 := k0.cell; have e1 := k1.cell; have e2 := k2_.cell; have l0 := k0.lt; have l1 := k1.lt; have l2 := k2_.lt) | (go_at_call 56; refine (HPA.out _ (HX.out.by hW) (HY.out.by hW)).mono ?_; rintro e w1 ⟨rfl, hb⟩; replace k0 := Blk.by hb k0; replace k1 := Blk.by hb k1; replace k2_ := Blk.by hb k2_; replace hW := below_on hb hW; clear hb e0 e1 e2; have e0 := k0.cell; have e1 := k1.cell; have e2 := k2_.cell; have l0 := k0.lt; have l1 := k1.lt; have l2 := k2_.lt) | (go_at_call_of 45 (Value.slice a n1 c); refine (HSX.out _ (HX.out.by hW)).mono ?_; rintro e w2 ⟨rfl, hb⟩; replace k0 := Blk.by hb k0; replace k1 := Blk.by hb k1; replace k2_ := Blk.by hb k2_; replace hW := below_on hb hW; clear hb e0 e1 e2; have e0 := k0.cell; have e1 := k1.cell; have e2 := k2_.cell; have l0 := k0.lt; have l1 := k1.lt; have l2 := k2_.lt) | (go_at_call 45; refine (HSY.out _ (HY.out.by hW)).mono ?_; rintro e w3 ⟨rfl, hb⟩; replace k0 := Blk.by hb k0; replace k1 := Blk.by hb k1; replace k2_ := Blk.by hb k2_; replace hW := below_on hb hW; clear hb e0 e1 e2; have e0 := k0.cell; have e1 := k1.cell; have e2 := k2_.cell; have l0 := k0.lt; have l1 := k1.lt; have l2 := k2_.lt) | (go_at_call_of 77 (Value.slice a n1 c); refine (HCX.out _ (HX.out.by hW)).mono ?_; rintro e w4 ⟨rfl, hb⟩; replace k0 := Blk.by hb k0; replace k1 := Blk.by hb k1; replace k2_ := Blk.by hb k2_; replace hW := below_on hb hW; clear hb e0 e1 e2; have e0 := k0.cell; have e1 := k1.cell; have e2 := k2_.cell; have l0 := k0.lt; have l1 := k1.lt; have l2 := k2_.lt) | (go_at_call 77; refine (HCY.out _ (HY.out.by hW)).mono ?_; rintro e w5 ⟨rfl, hb⟩; replace k0 := Blk.by hb k0; replace k1 := Blk.by hb k1; replace k2_ := Blk.by hb k2_; replace hW := below_on hb hW; clear hb e0 e1 e2; have e0 := k0.cell; have e1 := k1.cell; have e2 := k2_.cell; have l0 := k0.lt; have l1 := k1.lt; have l2 := k2_.lt))
    rw [HPO2.out]
    exact ⟨0, rfl, (fun h => by cases h), (by first | exact hW | exact below_al hW _)⟩
  have HKW := Lib.hid (show x.kind = 2 ∨ x.wd = y.wd by rw [HKK.out]; exact hkw)
  have hkw' : ((y.kind != 2) = false) ∨ ((y.kind != 2) = true ∧ (x.wd != y.wd) = false) := by
    by_cases h : y.kind = 2
    · left; simp [h]
    · right; simp [h] at hkw; simp [h, hkw]
  clear hkw
  cases pb with
  | true =>
    have hsb := H1.out rfl
    subst hsb
    rcases hkw' with hk2 | ⟨hk2, hwd⟩
    all_goals
      go_enter Tryz.func54, Tryz.ntmps54
      go_wp2_with (first | (go_at_call 97; refine (HSG.out _ (HX.out.by hW) (HY.out.by hW)).mono ?_; rintro e w1 ⟨rfl, hb⟩; replace k0 := Blk.by hb k0; replace k1 := Blk.by hb k1; replace k2_ := Blk.by hb k2_; replace hW := below_on hb hW; clear hb e0 e1 e2; have e0 := k0.cell; have e1 := k1.cell; have e2 := k2_.cell; have l0 := k0.lt; have l1 := k1.lt; have l2 := k2_.lt) | (go_at_call 56; refine (HPA.out _ (HX.out.by hW) (HY.out.by hW)).mono ?_; rintro e w1 ⟨rfl, hb⟩; replace k0 := Blk.by hb k0; replace k1 := Blk.by hb k1; replace k2_ := Blk.by hb k2_; replace hW := below_on hb hW; clear hb e0 e1 e2; have e0 := k0.cell; have e1 := k1.cell; have e2 := k2_.cell; have l0 := k0.lt; have l1 := k1.lt; have l2 := k2_.lt) | (go_at_call_of 45 (Value.slice a n1 c); refine (HSX.out _ (HX.out.by hW)).mono ?_; rintro e w2 ⟨rfl, hb⟩; replace k0 := Blk.by hb k0; replace k1 := Blk.by hb k1; replace k2_ := Blk.by hb k2_; replace hW := below_on hb hW; clear hb e0 e1 e2; have e0 := k0.cell; have e1 := k1.cell; have e2 := k2_.cell; have l0 := k0.lt; have l1 := k1.lt; have l2 := k2_.lt) | (go_at_call 45; refine (HSY.out _ (HY.out.by hW)).mono ?_; rintro e w3 ⟨rfl, hb⟩; replace k0 := Blk.by hb k0; replace k1 := Blk.by hb k1; replace k2_ := Blk.by hb k2_; replace hW := below_on hb hW; clear hb e0 e1 e2; have e0 := k0.cell; have e1 := k1.cell; have e2 := k2_.cell; have l0 := k0.lt; have l1 := k1.lt; have l2 := k2_.lt) | (go_at_call_of 77 (Value.slice a n1 c); refine (HCX.out _ (HX.out.by hW)).mono ?_; rintro e w4 ⟨rfl, hb⟩; replace k0 := Blk.by hb k0; replace k1 := Blk.by hb k1; replace k2_ := Blk.by hb k2_; replace hW := below_on hb hW; clear hb e0 e1 e2; have e0 := k0.cell; have e1 := k1.cell; have e2 := k2_.cell; have l0 := k0.lt; have l1 := k1.lt; have l2 := k2_.lt) | (go_at_call 77; refine (HCY.out _ (HY.out.by hW)).mono ?_; rintro e w5 ⟨rfl, hb⟩; replace k0 := Blk.by hb k0; replace k1 := Blk.by hb k1; replace k2_ := Blk.by hb k2_; replace hW := below_on hb hW; clear hb e0 e1 e2; have e0 := k0.cell; have e1 := k1.cell; have e2 := k2_.cell; have l0 := k0.lt; have l1 := k1.lt; have l2 := k2_.lt))
      rw [HPO2.out]
      exact ⟨0, rfl, (fun h => by cases h), (by first | exact hW | exact below_al hW _)⟩
  | false =>
  cases shx with
  | true =>
    have hsb := H2.out rfl
    subst hsb
    rcases hkw' with hk2 | ⟨hk2, hwd⟩
    all_goals
      go_enter Tryz.func54, Tryz.ntmps54
      go_wp2_with (first | (go_at_call 97; refine (HSG.out _ (HX.out.by hW) (HY.out.by hW)).mono ?_; rintro e w1 ⟨rfl, hb⟩; replace k0 := Blk.by hb k0; replace k1 := Blk.by hb k1; replace k2_ := Blk.by hb k2_; replace hW := below_on hb hW; clear hb e0 e1 e2; have e0 := k0.cell; have e1 := k1.cell; have e2 := k2_.cell; have l0 := k0.lt; have l1 := k1.lt; have l2 := k2_.lt) | (go_at_call 56; refine (HPA.out _ (HX.out.by hW) (HY.out.by hW)).mono ?_; rintro e w1 ⟨rfl, hb⟩; replace k0 := Blk.by hb k0; replace k1 := Blk.by hb k1; replace k2_ := Blk.by hb k2_; replace hW := below_on hb hW; clear hb e0 e1 e2; have e0 := k0.cell; have e1 := k1.cell; have e2 := k2_.cell; have l0 := k0.lt; have l1 := k1.lt; have l2 := k2_.lt) | (go_at_call_of 45 (Value.slice a n1 c); refine (HSX.out _ (HX.out.by hW)).mono ?_; rintro e w2 ⟨rfl, hb⟩; replace k0 := Blk.by hb k0; replace k1 := Blk.by hb k1; replace k2_ := Blk.by hb k2_; replace hW := below_on hb hW; clear hb e0 e1 e2; have e0 := k0.cell; have e1 := k1.cell; have e2 := k2_.cell; have l0 := k0.lt; have l1 := k1.lt; have l2 := k2_.lt) | (go_at_call 45; refine (HSY.out _ (HY.out.by hW)).mono ?_; rintro e w3 ⟨rfl, hb⟩; replace k0 := Blk.by hb k0; replace k1 := Blk.by hb k1; replace k2_ := Blk.by hb k2_; replace hW := below_on hb hW; clear hb e0 e1 e2; have e0 := k0.cell; have e1 := k1.cell; have e2 := k2_.cell; have l0 := k0.lt; have l1 := k1.lt; have l2 := k2_.lt) | (go_at_call_of 77 (Value.slice a n1 c); refine (HCX.out _ (HX.out.by hW)).mono ?_; rintro e w4 ⟨rfl, hb⟩; replace k0 := Blk.by hb k0; replace k1 := Blk.by hb k1; replace k2_ := Blk.by hb k2_; replace hW := below_on hb hW; clear hb e0 e1 e2; have e0 := k0.cell; have e1 := k1.cell; have e2 := k2_.cell; have l0 := k0.lt; have l1 := k1.lt; have l2 := k2_.lt) | (go_at_call 77; refine (HCY.out _ (HY.out.by hW)).mono ?_; rintro e w5 ⟨rfl, hb⟩; replace k0 := Blk.by hb k0; replace k1 := Blk.by hb k1; replace k2_ := Blk.by hb k2_; replace hW := below_on hb hW; clear hb e0 e1 e2; have e0 := k0.cell; have e1 := k1.cell; have e2 := k2_.cell; have l0 := k0.lt; have l1 := k1.lt; have l2 := k2_.lt))
      rw [HPO2.out]
      exact ⟨0, rfl, (fun h => by cases h), (by first | exact hW | exact below_al hW _)⟩
  | false =>
  cases shy with
  | true =>
    have hsb := H3.out rfl
    subst hsb
    rcases hkw' with hk2 | ⟨hk2, hwd⟩
    all_goals
      go_enter Tryz.func54, Tryz.ntmps54
      go_wp2_with (first | (go_at_call 97; refine (HSG.out _ (HX.out.by hW) (HY.out.by hW)).mono ?_; rintro e w1 ⟨rfl, hb⟩; replace k0 := Blk.by hb k0; replace k1 := Blk.by hb k1; replace k2_ := Blk.by hb k2_; replace hW := below_on hb hW; clear hb e0 e1 e2; have e0 := k0.cell; have e1 := k1.cell; have e2 := k2_.cell; have l0 := k0.lt; have l1 := k1.lt; have l2 := k2_.lt) | (go_at_call 56; refine (HPA.out _ (HX.out.by hW) (HY.out.by hW)).mono ?_; rintro e w1 ⟨rfl, hb⟩; replace k0 := Blk.by hb k0; replace k1 := Blk.by hb k1; replace k2_ := Blk.by hb k2_; replace hW := below_on hb hW; clear hb e0 e1 e2; have e0 := k0.cell; have e1 := k1.cell; have e2 := k2_.cell; have l0 := k0.lt; have l1 := k1.lt; have l2 := k2_.lt) | (go_at_call_of 45 (Value.slice a n1 c); refine (HSX.out _ (HX.out.by hW)).mono ?_; rintro e w2 ⟨rfl, hb⟩; replace k0 := Blk.by hb k0; replace k1 := Blk.by hb k1; replace k2_ := Blk.by hb k2_; replace hW := below_on hb hW; clear hb e0 e1 e2; have e0 := k0.cell; have e1 := k1.cell; have e2 := k2_.cell; have l0 := k0.lt; have l1 := k1.lt; have l2 := k2_.lt) | (go_at_call 45; refine (HSY.out _ (HY.out.by hW)).mono ?_; rintro e w3 ⟨rfl, hb⟩; replace k0 := Blk.by hb k0; replace k1 := Blk.by hb k1; replace k2_ := Blk.by hb k2_; replace hW := below_on hb hW; clear hb e0 e1 e2; have e0 := k0.cell; have e1 := k1.cell; have e2 := k2_.cell; have l0 := k0.lt; have l1 := k1.lt; have l2 := k2_.lt) | (go_at_call_of 77 (Value.slice a n1 c); refine (HCX.out _ (HX.out.by hW)).mono ?_; rintro e w4 ⟨rfl, hb⟩; replace k0 := Blk.by hb k0; replace k1 := Blk.by hb k1; replace k2_ := Blk.by hb k2_; replace hW := below_on hb hW; clear hb e0 e1 e2; have e0 := k0.cell; have e1 := k1.cell; have e2 := k2_.cell; have l0 := k0.lt; have l1 := k1.lt; have l2 := k2_.lt) | (go_at_call 77; refine (HCY.out _ (HY.out.by hW)).mono ?_; rintro e w5 ⟨rfl, hb⟩; replace k0 := Blk.by hb k0; replace k1 := Blk.by hb k1; replace k2_ := Blk.by hb k2_; replace hW := below_on hb hW; clear hb e0 e1 e2; have e0 := k0.cell; have e1 := k1.cell; have e2 := k2_.cell; have l0 := k0.lt; have l1 := k1.lt; have l2 := k2_.lt))
      rw [HPO2.out]
      exact ⟨0, rfl, (fun h => by cases h), (by first | exact hW | exact below_al hW _)⟩
  | false =>
  have PRT := Lib.hid (HALL.out rfl rfl rfl rfl HKW.out)
  rcases (by omega : ((pn : Nat) : Int) = r ∨ (¬ ((pn : Nat) : Int) = r ∧ ((pn : Nat) : Int) = s) ∨ (¬ ((pn : Nat) : Int) = r ∧ ¬ ((pn : Nat) : Int) = s)) with hp | hp | hp <;> rcases (by omega : ((qn : Nat) : Int) = r ∨ (¬ ((qn : Nat) : Int) = r ∧ ((qn : Nat) : Int) = s) ∨ (¬ ((qn : Nat) : Int) = r ∧ ¬ ((qn : Nat) : Int) = s)) with hq | hq | hq
  · -- p r q r
    have p1 : (((pn : Nat) : Int) == r) = true := by simpa using hp
    have p3 : (((pn : Nat) : Int) != r) = false := by simp [hp]
    have q1 : (((qn : Nat) : Int) == r) = true := by simpa using hq
    have hsb := H6.out (HONEB.out (.inl hp) (.inl hq))
    subst hsb
    clear hp hq
    rcases hkw' with hk2 | ⟨hk2, hwd⟩
    all_goals
      go_enter Tryz.func54, Tryz.ntmps54
      go_wp2_with (first | (go_at_call 97; refine (HSG.out _ (HX.out.by hW) (HY.out.by hW)).mono ?_; rintro e w1 ⟨rfl, hb⟩; replace k0 := Blk.by hb k0; replace k1 := Blk.by hb k1; replace k2_ := Blk.by hb k2_; replace hW := below_on hb hW; clear hb e0 e1 e2; have e0 := k0.cell; have e1 := k1.cell; have e2 := k2_.cell; have l0 := k0.lt; have l1 := k1.lt; have l2 := k2_.lt) | (go_at_call 56; refine (HPA.out _ (HX.out.by hW) (HY.out.by hW)).mono ?_; rintro e w1 ⟨rfl, hb⟩; replace k0 := Blk.by hb k0; replace k1 := Blk.by hb k1; replace k2_ := Blk.by hb k2_; replace hW := below_on hb hW; clear hb e0 e1 e2; have e0 := k0.cell; have e1 := k1.cell; have e2 := k2_.cell; have l0 := k0.lt; have l1 := k1.lt; have l2 := k2_.lt) | (go_at_call_of 45 (Value.slice a n1 c); refine (HSX.out _ (HX.out.by hW)).mono ?_; rintro e w2 ⟨rfl, hb⟩; replace k0 := Blk.by hb k0; replace k1 := Blk.by hb k1; replace k2_ := Blk.by hb k2_; replace hW := below_on hb hW; clear hb e0 e1 e2; have e0 := k0.cell; have e1 := k1.cell; have e2 := k2_.cell; have l0 := k0.lt; have l1 := k1.lt; have l2 := k2_.lt) | (go_at_call 45; refine (HSY.out _ (HY.out.by hW)).mono ?_; rintro e w3 ⟨rfl, hb⟩; replace k0 := Blk.by hb k0; replace k1 := Blk.by hb k1; replace k2_ := Blk.by hb k2_; replace hW := below_on hb hW; clear hb e0 e1 e2; have e0 := k0.cell; have e1 := k1.cell; have e2 := k2_.cell; have l0 := k0.lt; have l1 := k1.lt; have l2 := k2_.lt) | (go_at_call_of 77 (Value.slice a n1 c); refine (HCX.out _ (HX.out.by hW)).mono ?_; rintro e w4 ⟨rfl, hb⟩; replace k0 := Blk.by hb k0; replace k1 := Blk.by hb k1; replace k2_ := Blk.by hb k2_; replace hW := below_on hb hW; clear hb e0 e1 e2; have e0 := k0.cell; have e1 := k1.cell; have e2 := k2_.cell; have l0 := k0.lt; have l1 := k1.lt; have l2 := k2_.lt) | (go_at_call 77; refine (HCY.out _ (HY.out.by hW)).mono ?_; rintro e w5 ⟨rfl, hb⟩; replace k0 := Blk.by hb k0; replace k1 := Blk.by hb k1; replace k2_ := Blk.by hb k2_; replace hW := below_on hb hW; clear hb e0 e1 e2; have e0 := k0.cell; have e1 := k1.cell; have e2 := k2_.cell; have l0 := k0.lt; have l1 := k1.lt; have l2 := k2_.lt))
      rw [HPO2.out]
      exact ⟨0, rfl, (fun h => by cases h), (by first | exact hW | exact below_al hW _)⟩
  · -- p r q s
    have p1 : (((pn : Nat) : Int) == r) = true := by simpa using hp
    have p3 : (((pn : Nat) : Int) != r) = false := by simp [hp]
    have q1 : (((qn : Nat) : Int) == r) = false := by simpa using hq.1
    have q2 : (((qn : Nat) : Int) == s) = true := by simpa using hq.2
    have hsb := H6.out (HONEB.out (.inl hp) (.inr hq.2))
    subst hsb
    clear hp hq
    rcases hkw' with hk2 | ⟨hk2, hwd⟩
    all_goals
      go_enter Tryz.func54, Tryz.ntmps54
      go_wp2_with (first | (go_at_call 97; refine (HSG.out _ (HX.out.by hW) (HY.out.by hW)).mono ?_; rintro e w1 ⟨rfl, hb⟩; replace k0 := Blk.by hb k0; replace k1 := Blk.by hb k1; replace k2_ := Blk.by hb k2_; replace hW := below_on hb hW; clear hb e0 e1 e2; have e0 := k0.cell; have e1 := k1.cell; have e2 := k2_.cell; have l0 := k0.lt; have l1 := k1.lt; have l2 := k2_.lt) | (go_at_call 56; refine (HPA.out _ (HX.out.by hW) (HY.out.by hW)).mono ?_; rintro e w1 ⟨rfl, hb⟩; replace k0 := Blk.by hb k0; replace k1 := Blk.by hb k1; replace k2_ := Blk.by hb k2_; replace hW := below_on hb hW; clear hb e0 e1 e2; have e0 := k0.cell; have e1 := k1.cell; have e2 := k2_.cell; have l0 := k0.lt; have l1 := k1.lt; have l2 := k2_.lt) | (go_at_call_of 45 (Value.slice a n1 c); refine (HSX.out _ (HX.out.by hW)).mono ?_; rintro e w2 ⟨rfl, hb⟩; replace k0 := Blk.by hb k0; replace k1 := Blk.by hb k1; replace k2_ := Blk.by hb k2_; replace hW := below_on hb hW; clear hb e0 e1 e2; have e0 := k0.cell; have e1 := k1.cell; have e2 := k2_.cell; have l0 := k0.lt; have l1 := k1.lt; have l2 := k2_.lt) | (go_at_call 45; refine (HSY.out _ (HY.out.by hW)).mono ?_; rintro e w3 ⟨rfl, hb⟩; replace k0 := Blk.by hb k0; replace k1 := Blk.by hb k1; replace k2_ := Blk.by hb k2_; replace hW := below_on hb hW; clear hb e0 e1 e2; have e0 := k0.cell; have e1 := k1.cell; have e2 := k2_.cell; have l0 := k0.lt; have l1 := k1.lt; have l2 := k2_.lt) | (go_at_call_of 77 (Value.slice a n1 c); refine (HCX.out _ (HX.out.by hW)).mono ?_; rintro e w4 ⟨rfl, hb⟩; replace k0 := Blk.by hb k0; replace k1 := Blk.by hb k1; replace k2_ := Blk.by hb k2_; replace hW := below_on hb hW; clear hb e0 e1 e2; have e0 := k0.cell; have e1 := k1.cell; have e2 := k2_.cell; have l0 := k0.lt; have l1 := k1.lt; have l2 := k2_.lt) | (go_at_call 77; refine (HCY.out _ (HY.out.by hW)).mono ?_; rintro e w5 ⟨rfl, hb⟩; replace k0 := Blk.by hb k0; replace k1 := Blk.by hb k1; replace k2_ := Blk.by hb k2_; replace hW := below_on hb hW; clear hb e0 e1 e2; have e0 := k0.cell; have e1 := k1.cell; have e2 := k2_.cell; have l0 := k0.lt; have l1 := k1.lt; have l2 := k2_.lt))
      rw [HPO2.out]
      exact ⟨0, rfl, (fun h => by cases h), (by first | exact hW | exact below_al hW _)⟩
  · -- p r q n
    have p1 : (((pn : Nat) : Int) == r) = true := by simpa using hp
    have p3 : (((pn : Nat) : Int) != r) = false := by simp [hp]
    have q1 : (((qn : Nat) : Int) == r) = false := by simpa using hq.1
    have q2 : (((qn : Nat) : Int) == s) = false := by simpa using hq.2
    have q3 : (((qn : Nat) : Int) != r) = true := by simpa using hq.1
    have q4 : (((qn : Nat) : Int) != s) = true := by simpa using hq.2
    obtain ⟨ho, hsn⟩ := HONEP.out (.inl hp) ((fun h => h.elim hq.1 hq.2))
    have hsb : sb = (decide (degN n.ds ((pn : Nat) : Int) = 2) && !portB n.ps ((pn : Nat) : Int)) := by rw [H7.out PRT.out ho, hsn]; exact H9.out _
    have HSN := Lib.hid hsn
    obtain ⟨bu, ou, hau, cz⟩ := HU.out.cells.2 pn _ HDP.out
    subst hau
    have lU := lt_of_cell cz
    dsimp only at lU
    generalize degN n.ds ((pn : Nat) : Int) = dg at *
    have HPB := Lib.hid (fun sv B w h hc => HCF.out sv ((pn : Nat) : Int) B w h hc)
    generalize portB n.ps ((pn : Nat) : Int) = po at *
    have HSB := Lib.hid hsb
    have j1 : (0 : Int) ≤ ((pn : Nat) : Int) := by omega
    have j2 : ((pn : Nat) : Int) < (m : Int) := by omega
    clear hp hq ho hsn hsb
    rcases hkw' with hk2 | ⟨hk2, hwd⟩
    all_goals
      go_enter Tryz.func54, Tryz.ntmps54
      go_wp2_with (first | (go_at_call 97; refine (HSG.out _ (HX.out.by hW) (HY.out.by hW)).mono ?_; rintro e w1 ⟨rfl, hb⟩; replace k0 := Blk.by hb k0; replace k1 := Blk.by hb k1; replace k2_ := Blk.by hb k2_; replace hW := below_on hb hW; clear hb e0 e1 e2; have e0 := k0.cell; have e1 := k1.cell; have e2 := k2_.cell; have l0 := k0.lt; have l1 := k1.lt; have l2 := k2_.lt) | (go_at_call 56; refine (HPA.out _ (HX.out.by hW) (HY.out.by hW)).mono ?_; rintro e w1 ⟨rfl, hb⟩; replace k0 := Blk.by hb k0; replace k1 := Blk.by hb k1; replace k2_ := Blk.by hb k2_; replace hW := below_on hb hW; clear hb e0 e1 e2; have e0 := k0.cell; have e1 := k1.cell; have e2 := k2_.cell; have l0 := k0.lt; have l1 := k1.lt; have l2 := k2_.lt) | (go_at_call_of 45 (Value.slice a n1 c); refine (HSX.out _ (HX.out.by hW)).mono ?_; rintro e w2 ⟨rfl, hb⟩; replace k0 := Blk.by hb k0; replace k1 := Blk.by hb k1; replace k2_ := Blk.by hb k2_; replace hW := below_on hb hW; clear hb e0 e1 e2; have e0 := k0.cell; have e1 := k1.cell; have e2 := k2_.cell; have l0 := k0.lt; have l1 := k1.lt; have l2 := k2_.lt) | (go_at_call 45; refine (HSY.out _ (HY.out.by hW)).mono ?_; rintro e w3 ⟨rfl, hb⟩; replace k0 := Blk.by hb k0; replace k1 := Blk.by hb k1; replace k2_ := Blk.by hb k2_; replace hW := below_on hb hW; clear hb e0 e1 e2; have e0 := k0.cell; have e1 := k1.cell; have e2 := k2_.cell; have l0 := k0.lt; have l1 := k1.lt; have l2 := k2_.lt) | (go_at_call_of 77 (Value.slice a n1 c); refine (HCX.out _ (HX.out.by hW)).mono ?_; rintro e w4 ⟨rfl, hb⟩; replace k0 := Blk.by hb k0; replace k1 := Blk.by hb k1; replace k2_ := Blk.by hb k2_; replace hW := below_on hb hW; clear hb e0 e1 e2; have e0 := k0.cell; have e1 := k1.cell; have e2 := k2_.cell; have l0 := k0.lt; have l1 := k1.lt; have l2 := k2_.lt) | (go_at_call 77; refine (HCY.out _ (HY.out.by hW)).mono ?_; rintro e w5 ⟨rfl, hb⟩; replace k0 := Blk.by hb k0; replace k1 := Blk.by hb k1; replace k2_ := Blk.by hb k2_; replace hW := below_on hb hW; clear hb e0 e1 e2; have e0 := k0.cell; have e1 := k1.cell; have e2 := k2_.cell; have l0 := k0.lt; have l1 := k1.lt; have l2 := k2_.lt))
      have hWx := below_al hW (.cells #[.int .i64 ((pn : Nat) : Int)] 2)
      have k3 : Blk (w5.alloc (.cells #[.int .i64 ((pn : Nat) : Int)] 2)) w5.heap.size #[.int .i64 ((pn : Nat) : Int)] 2 := Blk.new _ rfl
      have k0' := k0.past (.cells #[.int .i64 ((pn : Nat) : Int)] 2)
      have cu' := cell_by' hWx cz
      by_cases hd : dg = 2
      · have hd' : ((dg : Int) == 2) = true := by simp [hd]
        have HSB' := Lib.hid (show sb = !po by rw [HSB.out]; simp [hd])
        clear hd
        go_region_held3 (fun w' => (Blk w' w.heap.size #[.int .i64 n.nets, .slice an n.ds.length cn, .slice an' n.ps.length cn'] 27 ∧ ∀ o, w'.cell? ⟨w.heap.size, o, none⟩ = (#[.int .i64 n.nets, .slice an n.ds.length cn, .slice an' n.ps.length cn'] : Array Value)[o]?) ∧ (Blk w' w5.heap.size #[.int .i64 ((pn : Nat) : Int)] 2 ∧ ∀ o, w'.cell? ⟨w5.heap.size, o, none⟩ = (#[.int .i64 ((pn : Nat) : Int)] : Array Value)[o]?) ∧ (w'.cell? ⟨bu, ou + pn, none⟩ = some (.int .i64 (dg : Nat))) ∧ Below w.heap.size w w')
          (first | exact ⟨k0'.both, k3.both, cu', hWx.drew⟩ | exact ⟨(Blk.by hb6 k0').both, (Blk.by hb6 k3).both, cell_by' hb6 cu', below_on hb6 hWx.drew⟩)
          (first | (go_at_call 98; refine (HPB.out _ _ _ (HPS.out.by hWx.drew) (by rw [Blk.cell k3.drew]; rfl)).mono ?_; rintro e w6 ⟨rfl, hb6⟩))
        go_wp2
        rw [HPO2.out]
        exact ⟨((pn : Nat) : Int), by rw [HSB'.out]; rfl, fun _ => HSN.out.symm, below_on hb6 hWx.drew⟩
      · have hd' : ((dg : Int) == 2) = false := by rw [beq_eq_false_iff_ne]; omega
        have HSB' := Lib.hid (show sb = false by rw [HSB.out]; simp [hd])
        have e3 := k3.cell
        clear hd
        go_quiet (fail)
        go_wp2
        rw [HPO2.out]
        exact ⟨((pn : Nat) : Int), by rw [HSB'.out]; rfl, fun _ => HSN.out.symm, below_drewN hWx _⟩
  · -- p s q r
    have p1 : (((pn : Nat) : Int) == r) = false := by simpa using hp.1
    have p2 : (((pn : Nat) : Int) == s) = true := by simpa using hp.2
    have p3 : (((pn : Nat) : Int) != r) = true := by simpa using hp.1
    have p4 : (((pn : Nat) : Int) != s) = false := by simp [hp.2]
    have q1 : (((qn : Nat) : Int) == r) = true := by simpa using hq
    have hsb := H6.out (HONEB.out (.inr hp.2) (.inl hq))
    subst hsb
    clear hp hq
    rcases hkw' with hk2 | ⟨hk2, hwd⟩
    all_goals
      go_enter Tryz.func54, Tryz.ntmps54
      go_wp2_with (first | (go_at_call 97; refine (HSG.out _ (HX.out.by hW) (HY.out.by hW)).mono ?_; rintro e w1 ⟨rfl, hb⟩; replace k0 := Blk.by hb k0; replace k1 := Blk.by hb k1; replace k2_ := Blk.by hb k2_; replace hW := below_on hb hW; clear hb e0 e1 e2; have e0 := k0.cell; have e1 := k1.cell; have e2 := k2_.cell; have l0 := k0.lt; have l1 := k1.lt; have l2 := k2_.lt) | (go_at_call 56; refine (HPA.out _ (HX.out.by hW) (HY.out.by hW)).mono ?_; rintro e w1 ⟨rfl, hb⟩; replace k0 := Blk.by hb k0; replace k1 := Blk.by hb k1; replace k2_ := Blk.by hb k2_; replace hW := below_on hb hW; clear hb e0 e1 e2; have e0 := k0.cell; have e1 := k1.cell; have e2 := k2_.cell; have l0 := k0.lt; have l1 := k1.lt; have l2 := k2_.lt) | (go_at_call_of 45 (Value.slice a n1 c); refine (HSX.out _ (HX.out.by hW)).mono ?_; rintro e w2 ⟨rfl, hb⟩; replace k0 := Blk.by hb k0; replace k1 := Blk.by hb k1; replace k2_ := Blk.by hb k2_; replace hW := below_on hb hW; clear hb e0 e1 e2; have e0 := k0.cell; have e1 := k1.cell; have e2 := k2_.cell; have l0 := k0.lt; have l1 := k1.lt; have l2 := k2_.lt) | (go_at_call 45; refine (HSY.out _ (HY.out.by hW)).mono ?_; rintro e w3 ⟨rfl, hb⟩; replace k0 := Blk.by hb k0; replace k1 := Blk.by hb k1; replace k2_ := Blk.by hb k2_; replace hW := below_on hb hW; clear hb e0 e1 e2; have e0 := k0.cell; have e1 := k1.cell; have e2 := k2_.cell; have l0 := k0.lt; have l1 := k1.lt; have l2 := k2_.lt) | (go_at_call_of 77 (Value.slice a n1 c); refine (HCX.out _ (HX.out.by hW)).mono ?_; rintro e w4 ⟨rfl, hb⟩; replace k0 := Blk.by hb k0; replace k1 := Blk.by hb k1; replace k2_ := Blk.by hb k2_; replace hW := below_on hb hW; clear hb e0 e1 e2; have e0 := k0.cell; have e1 := k1.cell; have e2 := k2_.cell; have l0 := k0.lt; have l1 := k1.lt; have l2 := k2_.lt) | (go_at_call 77; refine (HCY.out _ (HY.out.by hW)).mono ?_; rintro e w5 ⟨rfl, hb⟩; replace k0 := Blk.by hb k0; replace k1 := Blk.by hb k1; replace k2_ := Blk.by hb k2_; replace hW := below_on hb hW; clear hb e0 e1 e2; have e0 := k0.cell; have e1 := k1.cell; have e2 := k2_.cell; have l0 := k0.lt; have l1 := k1.lt; have l2 := k2_.lt))
      rw [HPO2.out]
      exact ⟨0, rfl, (fun h => by cases h), (by first | exact hW | exact below_al hW _)⟩
  · -- p s q s
    have p1 : (((pn : Nat) : Int) == r) = false := by simpa using hp.1
    have p2 : (((pn : Nat) : Int) == s) = true := by simpa using hp.2
    have p3 : (((pn : Nat) : Int) != r) = true := by simpa using hp.1
    have p4 : (((pn : Nat) : Int) != s) = false := by simp [hp.2]
    have q1 : (((qn : Nat) : Int) == r) = false := by simpa using hq.1
    have q2 : (((qn : Nat) : Int) == s) = true := by simpa using hq.2
    have hsb := H6.out (HONEB.out (.inr hp.2) (.inr hq.2))
    subst hsb
    clear hp hq
    rcases hkw' with hk2 | ⟨hk2, hwd⟩
    all_goals
      go_enter Tryz.func54, Tryz.ntmps54
      go_wp2_with (first | (go_at_call 97; refine (HSG.out _ (HX.out.by hW) (HY.out.by hW)).mono ?_; rintro e w1 ⟨rfl, hb⟩; replace k0 := Blk.by hb k0; replace k1 := Blk.by hb k1; replace k2_ := Blk.by hb k2_; replace hW := below_on hb hW; clear hb e0 e1 e2; have e0 := k0.cell; have e1 := k1.cell; have e2 := k2_.cell; have l0 := k0.lt; have l1 := k1.lt; have l2 := k2_.lt) | (go_at_call 56; refine (HPA.out _ (HX.out.by hW) (HY.out.by hW)).mono ?_; rintro e w1 ⟨rfl, hb⟩; replace k0 := Blk.by hb k0; replace k1 := Blk.by hb k1; replace k2_ := Blk.by hb k2_; replace hW := below_on hb hW; clear hb e0 e1 e2; have e0 := k0.cell; have e1 := k1.cell; have e2 := k2_.cell; have l0 := k0.lt; have l1 := k1.lt; have l2 := k2_.lt) | (go_at_call_of 45 (Value.slice a n1 c); refine (HSX.out _ (HX.out.by hW)).mono ?_; rintro e w2 ⟨rfl, hb⟩; replace k0 := Blk.by hb k0; replace k1 := Blk.by hb k1; replace k2_ := Blk.by hb k2_; replace hW := below_on hb hW; clear hb e0 e1 e2; have e0 := k0.cell; have e1 := k1.cell; have e2 := k2_.cell; have l0 := k0.lt; have l1 := k1.lt; have l2 := k2_.lt) | (go_at_call 45; refine (HSY.out _ (HY.out.by hW)).mono ?_; rintro e w3 ⟨rfl, hb⟩; replace k0 := Blk.by hb k0; replace k1 := Blk.by hb k1; replace k2_ := Blk.by hb k2_; replace hW := below_on hb hW; clear hb e0 e1 e2; have e0 := k0.cell; have e1 := k1.cell; have e2 := k2_.cell; have l0 := k0.lt; have l1 := k1.lt; have l2 := k2_.lt) | (go_at_call_of 77 (Value.slice a n1 c); refine (HCX.out _ (HX.out.by hW)).mono ?_; rintro e w4 ⟨rfl, hb⟩; replace k0 := Blk.by hb k0; replace k1 := Blk.by hb k1; replace k2_ := Blk.by hb k2_; replace hW := below_on hb hW; clear hb e0 e1 e2; have e0 := k0.cell; have e1 := k1.cell; have e2 := k2_.cell; have l0 := k0.lt; have l1 := k1.lt; have l2 := k2_.lt) | (go_at_call 77; refine (HCY.out _ (HY.out.by hW)).mono ?_; rintro e w5 ⟨rfl, hb⟩; replace k0 := Blk.by hb k0; replace k1 := Blk.by hb k1; replace k2_ := Blk.by hb k2_; replace hW := below_on hb hW; clear hb e0 e1 e2; have e0 := k0.cell; have e1 := k1.cell; have e2 := k2_.cell; have l0 := k0.lt; have l1 := k1.lt; have l2 := k2_.lt))
      rw [HPO2.out]
      exact ⟨0, rfl, (fun h => by cases h), (by first | exact hW | exact below_al hW _)⟩
  · -- p s q n
    have p1 : (((pn : Nat) : Int) == r) = false := by simpa using hp.1
    have p2 : (((pn : Nat) : Int) == s) = true := by simpa using hp.2
    have p3 : (((pn : Nat) : Int) != r) = true := by simpa using hp.1
    have p4 : (((pn : Nat) : Int) != s) = false := by simp [hp.2]
    have q1 : (((qn : Nat) : Int) == r) = false := by simpa using hq.1
    have q2 : (((qn : Nat) : Int) == s) = false := by simpa using hq.2
    have q3 : (((qn : Nat) : Int) != r) = true := by simpa using hq.1
    have q4 : (((qn : Nat) : Int) != s) = true := by simpa using hq.2
    obtain ⟨ho, hsn⟩ := HONEP.out (.inr hp.2) ((fun h => h.elim hq.1 hq.2))
    have hsb : sb = (decide (degN n.ds ((pn : Nat) : Int) = 2) && !portB n.ps ((pn : Nat) : Int)) := by rw [H7.out PRT.out ho, hsn]; exact H9.out _
    have HSN := Lib.hid hsn
    obtain ⟨bu, ou, hau, cz⟩ := HU.out.cells.2 pn _ HDP.out
    subst hau
    have lU := lt_of_cell cz
    dsimp only at lU
    generalize degN n.ds ((pn : Nat) : Int) = dg at *
    have HPB := Lib.hid (fun sv B w h hc => HCF.out sv ((pn : Nat) : Int) B w h hc)
    generalize portB n.ps ((pn : Nat) : Int) = po at *
    have HSB := Lib.hid hsb
    have j1 : (0 : Int) ≤ ((pn : Nat) : Int) := by omega
    have j2 : ((pn : Nat) : Int) < (m : Int) := by omega
    clear hp hq ho hsn hsb
    rcases hkw' with hk2 | ⟨hk2, hwd⟩
    all_goals
      go_enter Tryz.func54, Tryz.ntmps54
      go_wp2_with (first | (go_at_call 97; refine (HSG.out _ (HX.out.by hW) (HY.out.by hW)).mono ?_; rintro e w1 ⟨rfl, hb⟩; replace k0 := Blk.by hb k0; replace k1 := Blk.by hb k1; replace k2_ := Blk.by hb k2_; replace hW := below_on hb hW; clear hb e0 e1 e2; have e0 := k0.cell; have e1 := k1.cell; have e2 := k2_.cell; have l0 := k0.lt; have l1 := k1.lt; have l2 := k2_.lt) | (go_at_call 56; refine (HPA.out _ (HX.out.by hW) (HY.out.by hW)).mono ?_; rintro e w1 ⟨rfl, hb⟩; replace k0 := Blk.by hb k0; replace k1 := Blk.by hb k1; replace k2_ := Blk.by hb k2_; replace hW := below_on hb hW; clear hb e0 e1 e2; have e0 := k0.cell; have e1 := k1.cell; have e2 := k2_.cell; have l0 := k0.lt; have l1 := k1.lt; have l2 := k2_.lt) | (go_at_call_of 45 (Value.slice a n1 c); refine (HSX.out _ (HX.out.by hW)).mono ?_; rintro e w2 ⟨rfl, hb⟩; replace k0 := Blk.by hb k0; replace k1 := Blk.by hb k1; replace k2_ := Blk.by hb k2_; replace hW := below_on hb hW; clear hb e0 e1 e2; have e0 := k0.cell; have e1 := k1.cell; have e2 := k2_.cell; have l0 := k0.lt; have l1 := k1.lt; have l2 := k2_.lt) | (go_at_call 45; refine (HSY.out _ (HY.out.by hW)).mono ?_; rintro e w3 ⟨rfl, hb⟩; replace k0 := Blk.by hb k0; replace k1 := Blk.by hb k1; replace k2_ := Blk.by hb k2_; replace hW := below_on hb hW; clear hb e0 e1 e2; have e0 := k0.cell; have e1 := k1.cell; have e2 := k2_.cell; have l0 := k0.lt; have l1 := k1.lt; have l2 := k2_.lt) | (go_at_call_of 77 (Value.slice a n1 c); refine (HCX.out _ (HX.out.by hW)).mono ?_; rintro e w4 ⟨rfl, hb⟩; replace k0 := Blk.by hb k0; replace k1 := Blk.by hb k1; replace k2_ := Blk.by hb k2_; replace hW := below_on hb hW; clear hb e0 e1 e2; have e0 := k0.cell; have e1 := k1.cell; have e2 := k2_.cell; have l0 := k0.lt; have l1 := k1.lt; have l2 := k2_.lt) | (go_at_call 77; refine (HCY.out _ (HY.out.by hW)).mono ?_; rintro e w5 ⟨rfl, hb⟩; replace k0 := Blk.by hb k0; replace k1 := Blk.by hb k1; replace k2_ := Blk.by hb k2_; replace hW := below_on hb hW; clear hb e0 e1 e2; have e0 := k0.cell; have e1 := k1.cell; have e2 := k2_.cell; have l0 := k0.lt; have l1 := k1.lt; have l2 := k2_.lt))
      have hWx := below_al hW (.cells #[.int .i64 ((pn : Nat) : Int)] 2)
      have k3 : Blk (w5.alloc (.cells #[.int .i64 ((pn : Nat) : Int)] 2)) w5.heap.size #[.int .i64 ((pn : Nat) : Int)] 2 := Blk.new _ rfl
      have k0' := k0.past (.cells #[.int .i64 ((pn : Nat) : Int)] 2)
      have cu' := cell_by' hWx cz
      by_cases hd : dg = 2
      · have hd' : ((dg : Int) == 2) = true := by simp [hd]
        have HSB' := Lib.hid (show sb = !po by rw [HSB.out]; simp [hd])
        clear hd
        go_region_held3 (fun w' => (Blk w' w.heap.size #[.int .i64 n.nets, .slice an n.ds.length cn, .slice an' n.ps.length cn'] 27 ∧ ∀ o, w'.cell? ⟨w.heap.size, o, none⟩ = (#[.int .i64 n.nets, .slice an n.ds.length cn, .slice an' n.ps.length cn'] : Array Value)[o]?) ∧ (Blk w' w5.heap.size #[.int .i64 ((pn : Nat) : Int)] 2 ∧ ∀ o, w'.cell? ⟨w5.heap.size, o, none⟩ = (#[.int .i64 ((pn : Nat) : Int)] : Array Value)[o]?) ∧ (w'.cell? ⟨bu, ou + pn, none⟩ = some (.int .i64 (dg : Nat))) ∧ Below w.heap.size w w')
          (first | exact ⟨k0'.both, k3.both, cu', hWx.drew⟩ | exact ⟨(Blk.by hb6 k0').both, (Blk.by hb6 k3).both, cell_by' hb6 cu', below_on hb6 hWx.drew⟩)
          (first | (go_at_call 98; refine (HPB.out _ _ _ (HPS.out.by hWx.drew) (by rw [Blk.cell k3.drew]; rfl)).mono ?_; rintro e w6 ⟨rfl, hb6⟩))
        go_wp2
        rw [HPO2.out]
        exact ⟨((pn : Nat) : Int), by rw [HSB'.out]; rfl, fun _ => HSN.out.symm, below_on hb6 hWx.drew⟩
      · have hd' : ((dg : Int) == 2) = false := by rw [beq_eq_false_iff_ne]; omega
        have HSB' := Lib.hid (show sb = false by rw [HSB.out]; simp [hd])
        have e3 := k3.cell
        clear hd
        go_quiet (fail)
        go_wp2
        rw [HPO2.out]
        exact ⟨((pn : Nat) : Int), by rw [HSB'.out]; rfl, fun _ => HSN.out.symm, below_drewN hWx _⟩
  · -- p n q r
    have p1 : (((pn : Nat) : Int) == r) = false := by simpa using hp.1
    have p2 : (((pn : Nat) : Int) == s) = false := by simpa using hp.2
    have p3 : (((pn : Nat) : Int) != r) = true := by simpa using hp.1
    have p4 : (((pn : Nat) : Int) != s) = true := by simpa using hp.2
    have q1 : (((qn : Nat) : Int) == r) = true := by simpa using hq
    obtain ⟨ho, hsn⟩ := HONEQ.out ((fun h => h.elim hp.1 hp.2)) (.inl hq)
    have hsb : sb = (decide (degN n.ds ((qn : Nat) : Int) = 2) && !portB n.ps ((qn : Nat) : Int)) := by rw [H7.out PRT.out ho, hsn]; exact H9.out _
    have HSN := Lib.hid hsn
    obtain ⟨bu, ou, hau, cz⟩ := HU.out.cells.2 qn _ HDQ.out
    subst hau
    have lU := lt_of_cell cz
    dsimp only at lU
    generalize degN n.ds ((qn : Nat) : Int) = dg at *
    have HPB := Lib.hid (fun sv B w h hc => HCF.out sv ((qn : Nat) : Int) B w h hc)
    generalize portB n.ps ((qn : Nat) : Int) = po at *
    have HSB := Lib.hid hsb
    have j1 : (0 : Int) ≤ ((qn : Nat) : Int) := by omega
    have j2 : ((qn : Nat) : Int) < (m : Int) := by omega
    clear hp hq ho hsn hsb
    rcases hkw' with hk2 | ⟨hk2, hwd⟩
    all_goals
      go_enter Tryz.func54, Tryz.ntmps54
      go_wp2_with (first | (go_at_call 97; refine (HSG.out _ (HX.out.by hW) (HY.out.by hW)).mono ?_; rintro e w1 ⟨rfl, hb⟩; replace k0 := Blk.by hb k0; replace k1 := Blk.by hb k1; replace k2_ := Blk.by hb k2_; replace hW := below_on hb hW; clear hb e0 e1 e2; have e0 := k0.cell; have e1 := k1.cell; have e2 := k2_.cell; have l0 := k0.lt; have l1 := k1.lt; have l2 := k2_.lt) | (go_at_call 56; refine (HPA.out _ (HX.out.by hW) (HY.out.by hW)).mono ?_; rintro e w1 ⟨rfl, hb⟩; replace k0 := Blk.by hb k0; replace k1 := Blk.by hb k1; replace k2_ := Blk.by hb k2_; replace hW := below_on hb hW; clear hb e0 e1 e2; have e0 := k0.cell; have e1 := k1.cell; have e2 := k2_.cell; have l0 := k0.lt; have l1 := k1.lt; have l2 := k2_.lt) | (go_at_call_of 45 (Value.slice a n1 c); refine (HSX.out _ (HX.out.by hW)).mono ?_; rintro e w2 ⟨rfl, hb⟩; replace k0 := Blk.by hb k0; replace k1 := Blk.by hb k1; replace k2_ := Blk.by hb k2_; replace hW := below_on hb hW; clear hb e0 e1 e2; have e0 := k0.cell; have e1 := k1.cell; have e2 := k2_.cell; have l0 := k0.lt; have l1 := k1.lt; have l2 := k2_.lt) | (go_at_call 45; refine (HSY.out _ (HY.out.by hW)).mono ?_; rintro e w3 ⟨rfl, hb⟩; replace k0 := Blk.by hb k0; replace k1 := Blk.by hb k1; replace k2_ := Blk.by hb k2_; replace hW := below_on hb hW; clear hb e0 e1 e2; have e0 := k0.cell; have e1 := k1.cell; have e2 := k2_.cell; have l0 := k0.lt; have l1 := k1.lt; have l2 := k2_.lt) | (go_at_call_of 77 (Value.slice a n1 c); refine (HCX.out _ (HX.out.by hW)).mono ?_; rintro e w4 ⟨rfl, hb⟩; replace k0 := Blk.by hb k0; replace k1 := Blk.by hb k1; replace k2_ := Blk.by hb k2_; replace hW := below_on hb hW; clear hb e0 e1 e2; have e0 := k0.cell; have e1 := k1.cell; have e2 := k2_.cell; have l0 := k0.lt; have l1 := k1.lt; have l2 := k2_.lt) | (go_at_call 77; refine (HCY.out _ (HY.out.by hW)).mono ?_; rintro e w5 ⟨rfl, hb⟩; replace k0 := Blk.by hb k0; replace k1 := Blk.by hb k1; replace k2_ := Blk.by hb k2_; replace hW := below_on hb hW; clear hb e0 e1 e2; have e0 := k0.cell; have e1 := k1.cell; have e2 := k2_.cell; have l0 := k0.lt; have l1 := k1.lt; have l2 := k2_.lt))
      have hWx := below_al hW (.cells #[.int .i64 ((qn : Nat) : Int)] 2)
      have k3 : Blk (w5.alloc (.cells #[.int .i64 ((qn : Nat) : Int)] 2)) w5.heap.size #[.int .i64 ((qn : Nat) : Int)] 2 := Blk.new _ rfl
      have k0' := k0.past (.cells #[.int .i64 ((qn : Nat) : Int)] 2)
      have cu' := cell_by' hWx cz
      by_cases hd : dg = 2
      · have hd' : ((dg : Int) == 2) = true := by simp [hd]
        have HSB' := Lib.hid (show sb = !po by rw [HSB.out]; simp [hd])
        clear hd
        go_region_held3 (fun w' => (Blk w' w.heap.size #[.int .i64 n.nets, .slice an n.ds.length cn, .slice an' n.ps.length cn'] 27 ∧ ∀ o, w'.cell? ⟨w.heap.size, o, none⟩ = (#[.int .i64 n.nets, .slice an n.ds.length cn, .slice an' n.ps.length cn'] : Array Value)[o]?) ∧ (Blk w' w5.heap.size #[.int .i64 ((qn : Nat) : Int)] 2 ∧ ∀ o, w'.cell? ⟨w5.heap.size, o, none⟩ = (#[.int .i64 ((qn : Nat) : Int)] : Array Value)[o]?) ∧ (w'.cell? ⟨bu, ou + qn, none⟩ = some (.int .i64 (dg : Nat))) ∧ Below w.heap.size w w')
          (first | exact ⟨k0'.both, k3.both, cu', hWx.drew⟩ | exact ⟨(Blk.by hb6 k0').both, (Blk.by hb6 k3).both, cell_by' hb6 cu', below_on hb6 hWx.drew⟩)
          (first | (go_at_call 98; refine (HPB.out _ _ _ (HPS.out.by hWx.drew) (by rw [Blk.cell k3.drew]; rfl)).mono ?_; rintro e w6 ⟨rfl, hb6⟩))
        go_wp2
        rw [HPO2.out]
        exact ⟨((qn : Nat) : Int), by rw [HSB'.out]; rfl, fun _ => HSN.out.symm, below_on hb6 hWx.drew⟩
      · have hd' : ((dg : Int) == 2) = false := by rw [beq_eq_false_iff_ne]; omega
        have HSB' := Lib.hid (show sb = false by rw [HSB.out]; simp [hd])
        have e3 := k3.cell
        clear hd
        go_quiet (fail)
        go_wp2
        rw [HPO2.out]
        exact ⟨((qn : Nat) : Int), by rw [HSB'.out]; rfl, fun _ => HSN.out.symm, below_drewN hWx _⟩
  · -- p n q s
    have p1 : (((pn : Nat) : Int) == r) = false := by simpa using hp.1
    have p2 : (((pn : Nat) : Int) == s) = false := by simpa using hp.2
    have p3 : (((pn : Nat) : Int) != r) = true := by simpa using hp.1
    have p4 : (((pn : Nat) : Int) != s) = true := by simpa using hp.2
    have q1 : (((qn : Nat) : Int) == r) = false := by simpa using hq.1
    have q2 : (((qn : Nat) : Int) == s) = true := by simpa using hq.2
    obtain ⟨ho, hsn⟩ := HONEQ.out ((fun h => h.elim hp.1 hp.2)) (.inr hq.2)
    have hsb : sb = (decide (degN n.ds ((qn : Nat) : Int) = 2) && !portB n.ps ((qn : Nat) : Int)) := by rw [H7.out PRT.out ho, hsn]; exact H9.out _
    have HSN := Lib.hid hsn
    obtain ⟨bu, ou, hau, cz⟩ := HU.out.cells.2 qn _ HDQ.out
    subst hau
    have lU := lt_of_cell cz
    dsimp only at lU
    generalize degN n.ds ((qn : Nat) : Int) = dg at *
    have HPB := Lib.hid (fun sv B w h hc => HCF.out sv ((qn : Nat) : Int) B w h hc)
    generalize portB n.ps ((qn : Nat) : Int) = po at *
    have HSB := Lib.hid hsb
    have j1 : (0 : Int) ≤ ((qn : Nat) : Int) := by omega
    have j2 : ((qn : Nat) : Int) < (m : Int) := by omega
    clear hp hq ho hsn hsb
    rcases hkw' with hk2 | ⟨hk2, hwd⟩
    all_goals
      go_enter Tryz.func54, Tryz.ntmps54
      go_wp2_with (first | (go_at_call 97; refine (HSG.out _ (HX.out.by hW) (HY.out.by hW)).mono ?_; rintro e w1 ⟨rfl, hb⟩; replace k0 := Blk.by hb k0; replace k1 := Blk.by hb k1; replace k2_ := Blk.by hb k2_; replace hW := below_on hb hW; clear hb e0 e1 e2; have e0 := k0.cell; have e1 := k1.cell; have e2 := k2_.cell; have l0 := k0.lt; have l1 := k1.lt; have l2 := k2_.lt) | (go_at_call 56; refine (HPA.out _ (HX.out.by hW) (HY.out.by hW)).mono ?_; rintro e w1 ⟨rfl, hb⟩; replace k0 := Blk.by hb k0; replace k1 := Blk.by hb k1; replace k2_ := Blk.by hb k2_; replace hW := below_on hb hW; clear hb e0 e1 e2; have e0 := k0.cell; have e1 := k1.cell; have e2 := k2_.cell; have l0 := k0.lt; have l1 := k1.lt; have l2 := k2_.lt) | (go_at_call_of 45 (Value.slice a n1 c); refine (HSX.out _ (HX.out.by hW)).mono ?_; rintro e w2 ⟨rfl, hb⟩; replace k0 := Blk.by hb k0; replace k1 := Blk.by hb k1; replace k2_ := Blk.by hb k2_; replace hW := below_on hb hW; clear hb e0 e1 e2; have e0 := k0.cell; have e1 := k1.cell; have e2 := k2_.cell; have l0 := k0.lt; have l1 := k1.lt; have l2 := k2_.lt) | (go_at_call 45; refine (HSY.out _ (HY.out.by hW)).mono ?_; rintro e w3 ⟨rfl, hb⟩; replace k0 := Blk.by hb k0; replace k1 := Blk.by hb k1; replace k2_ := Blk.by hb k2_; replace hW := below_on hb hW; clear hb e0 e1 e2; have e0 := k0.cell; have e1 := k1.cell; have e2 := k2_.cell; have l0 := k0.lt; have l1 := k1.lt; have l2 := k2_.lt) | (go_at_call_of 77 (Value.slice a n1 c); refine (HCX.out _ (HX.out.by hW)).mono ?_; rintro e w4 ⟨rfl, hb⟩; replace k0 := Blk.by hb k0; replace k1 := Blk.by hb k1; replace k2_ := Blk.by hb k2_; replace hW := below_on hb hW; clear hb e0 e1 e2; have e0 := k0.cell; have e1 := k1.cell; have e2 := k2_.cell; have l0 := k0.lt; have l1 := k1.lt; have l2 := k2_.lt) | (go_at_call 77; refine (HCY.out _ (HY.out.by hW)).mono ?_; rintro e w5 ⟨rfl, hb⟩; replace k0 := Blk.by hb k0; replace k1 := Blk.by hb k1; replace k2_ := Blk.by hb k2_; replace hW := below_on hb hW; clear hb e0 e1 e2; have e0 := k0.cell; have e1 := k1.cell; have e2 := k2_.cell; have l0 := k0.lt; have l1 := k1.lt; have l2 := k2_.lt))
      have hWx := below_al hW (.cells #[.int .i64 ((qn : Nat) : Int)] 2)
      have k3 : Blk (w5.alloc (.cells #[.int .i64 ((qn : Nat) : Int)] 2)) w5.heap.size #[.int .i64 ((qn : Nat) : Int)] 2 := Blk.new _ rfl
      have k0' := k0.past (.cells #[.int .i64 ((qn : Nat) : Int)] 2)
      have cu' := cell_by' hWx cz
      by_cases hd : dg = 2
      · have hd' : ((dg : Int) == 2) = true := by simp [hd]
        have HSB' := Lib.hid (show sb = !po by rw [HSB.out]; simp [hd])
        clear hd
        go_region_held3 (fun w' => (Blk w' w.heap.size #[.int .i64 n.nets, .slice an n.ds.length cn, .slice an' n.ps.length cn'] 27 ∧ ∀ o, w'.cell? ⟨w.heap.size, o, none⟩ = (#[.int .i64 n.nets, .slice an n.ds.length cn, .slice an' n.ps.length cn'] : Array Value)[o]?) ∧ (Blk w' w5.heap.size #[.int .i64 ((qn : Nat) : Int)] 2 ∧ ∀ o, w'.cell? ⟨w5.heap.size, o, none⟩ = (#[.int .i64 ((qn : Nat) : Int)] : Array Value)[o]?) ∧ (w'.cell? ⟨bu, ou + qn, none⟩ = some (.int .i64 (dg : Nat))) ∧ Below w.heap.size w w')
          (first | exact ⟨k0'.both, k3.both, cu', hWx.drew⟩ | exact ⟨(Blk.by hb6 k0').both, (Blk.by hb6 k3).both, cell_by' hb6 cu', below_on hb6 hWx.drew⟩)
          (first | (go_at_call 98; refine (HPB.out _ _ _ (HPS.out.by hWx.drew) (by rw [Blk.cell k3.drew]; rfl)).mono ?_; rintro e w6 ⟨rfl, hb6⟩))
        go_wp2
        rw [HPO2.out]
        exact ⟨((qn : Nat) : Int), by rw [HSB'.out]; rfl, fun _ => HSN.out.symm, below_on hb6 hWx.drew⟩
      · have hd' : ((dg : Int) == 2) = false := by rw [beq_eq_false_iff_ne]; omega
        have HSB' := Lib.hid (show sb = false by rw [HSB.out]; simp [hd])
        have e3 := k3.cell
        clear hd
        go_quiet (fail)
        go_wp2
        rw [HPO2.out]
        exact ⟨((qn : Nat) : Int), by rw [HSB'.out]; rfl, fun _ => HSN.out.symm, below_drewN hWx _⟩
  · -- p n q n
    have p1 : (((pn : Nat) : Int) == r) = false := by simpa using hp.1
    have p2 : (((pn : Nat) : Int) == s) = false := by simpa using hp.2
    have p3 : (((pn : Nat) : Int) != r) = true := by simpa using hp.1
    have p4 : (((pn : Nat) : Int) != s) = true := by simpa using hp.2
    have q1 : (((qn : Nat) : Int) == r) = false := by simpa using hq.1
    have q2 : (((qn : Nat) : Int) == s) = false := by simpa using hq.2
    have q3 : (((qn : Nat) : Int) != r) = true := by simpa using hq.1
    have q4 : (((qn : Nat) : Int) != s) = true := by simpa using hq.2
    have hsb := H6.out (HONEN.out ((fun h => h.elim hp.1 hp.2)) ((fun h => h.elim hq.1 hq.2)))
    subst hsb
    clear hp hq
    rcases hkw' with hk2 | ⟨hk2, hwd⟩
    all_goals
      go_enter Tryz.func54, Tryz.ntmps54
      go_wp2_with (first | (go_at_call 97; refine (HSG.out _ (HX.out.by hW) (HY.out.by hW)).mono ?_; rintro e w1 ⟨rfl, hb⟩; replace k0 := Blk.by hb k0; replace k1 := Blk.by hb k1; replace k2_ := Blk.by hb k2_; replace hW := below_on hb hW; clear hb e0 e1 e2; have e0 := k0.cell; have e1 := k1.cell; have e2 := k2_.cell; have l0 := k0.lt; have l1 := k1.lt; have l2 := k2_.lt) | (go_at_call 56; refine (HPA.out _ (HX.out.by hW) (HY.out.by hW)).mono ?_; rintro e w1 ⟨rfl, hb⟩; replace k0 := Blk.by hb k0; replace k1 := Blk.by hb k1; replace k2_ := Blk.by hb k2_; replace hW := below_on hb hW; clear hb e0 e1 e2; have e0 := k0.cell; have e1 := k1.cell; have e2 := k2_.cell; have l0 := k0.lt; have l1 := k1.lt; have l2 := k2_.lt) | (go_at_call_of 45 (Value.slice a n1 c); refine (HSX.out _ (HX.out.by hW)).mono ?_; rintro e w2 ⟨rfl, hb⟩; replace k0 := Blk.by hb k0; replace k1 := Blk.by hb k1; replace k2_ := Blk.by hb k2_; replace hW := below_on hb hW; clear hb e0 e1 e2; have e0 := k0.cell; have e1 := k1.cell; have e2 := k2_.cell; have l0 := k0.lt; have l1 := k1.lt; have l2 := k2_.lt) | (go_at_call 45; refine (HSY.out _ (HY.out.by hW)).mono ?_; rintro e w3 ⟨rfl, hb⟩; replace k0 := Blk.by hb k0; replace k1 := Blk.by hb k1; replace k2_ := Blk.by hb k2_; replace hW := below_on hb hW; clear hb e0 e1 e2; have e0 := k0.cell; have e1 := k1.cell; have e2 := k2_.cell; have l0 := k0.lt; have l1 := k1.lt; have l2 := k2_.lt) | (go_at_call_of 77 (Value.slice a n1 c); refine (HCX.out _ (HX.out.by hW)).mono ?_; rintro e w4 ⟨rfl, hb⟩; replace k0 := Blk.by hb k0; replace k1 := Blk.by hb k1; replace k2_ := Blk.by hb k2_; replace hW := below_on hb hW; clear hb e0 e1 e2; have e0 := k0.cell; have e1 := k1.cell; have e2 := k2_.cell; have l0 := k0.lt; have l1 := k1.lt; have l2 := k2_.lt) | (go_at_call 77; refine (HCY.out _ (HY.out.by hW)).mono ?_; rintro e w5 ⟨rfl, hb⟩; replace k0 := Blk.by hb k0; replace k1 := Blk.by hb k1; replace k2_ := Blk.by hb k2_; replace hW := below_on hb hW; clear hb e0 e1 e2; have e0 := k0.cell; have e1 := k1.cell; have e2 := k2_.cell; have l0 := k0.lt; have l1 := k1.lt; have l2 := k2_.lt))
      rw [HPO2.out]
      exact ⟨0, rfl, (fun h => by cases h), (by first | exact hW | exact below_al hW _)⟩
/- l28Series and serial at devices of a valid netlist. -/
set_option maxRecDepth 100000 in
set_option maxHeartbeats 1000000 in
theorem serial_kind (n : Nl) (x y : Dv) (v su sx sy : Value) (w : World) (hv : NlV w v n) (h : IntSl w sx x.pins) (h' : IntSl w sy y.pins) (hk : x.kind ≠ y.kind) :
    Calls Tryz.prog 54 #[v, su, .agg #[.int .i64 x.kind, sx, .int .i64 x.wd, .int .i64 x.len], .agg #[.int .i64 y.kind, sy, .int .i64 y.wd, .int .i64 y.len]] w (SerPost n x y w) := by
  have hsb := serB_pre (n := n) (serPre_kind hk)
  have HPO2 := Lib.hid (show SerPost n x y w = fun e w' => ∃ r1 : Int, e = .returned (.tuple #[.int .i64 r1, .bool (serB n x y)]) ∧ (serB n x y = true → r1 = serN x y) ∧ Below w.heap.size w w' from rfl)
  rw [hsb] at HPO2
  obtain ⟨an, cn, an', cn', rfl⟩ := hv.sized
  obtain ⟨a, c, rfl⟩ := h.len
  obtain ⟨a', c', rfl⟩ := h'.len
  generalize SerPost n x y w = PP at *
  have hk' : (x.kind != y.kind) = true := by simpa using hk
  clear hv h h' hk hsb
  go_enter Tryz.func54, Tryz.ntmps54
  go_wp2
  rw [HPO2.out]
  exact ⟨0, rfl, (fun h => by cases h), blwT⟩
theorem cur_in {nets : Int} {x : Dv} (h : dvB nets x = true) : (0 ≤ curP x.pins ∧ curP x.pins < nets) ∧ (0 ≤ curQ x.pins ∧ curQ x.pins < nets) := by
  obtain ⟨_, _, hin⟩ := dvB_pins h
  rcases shp_of h with ⟨_, p, q, hp⟩ | ⟨_, g, p, q, hp⟩
  · rw [hp] at hin ⊢
    exact ⟨hin p (by simp), hin q (by simp)⟩
  · rw [hp] at hin ⊢
    exact ⟨hin p (by simp), hin q (by simp)⟩
theorem serial_any (n : Nl) (m : Nat) (x y : Dv) (v su sx sy : Value) (w : World) (hn : nlB n = true) (hm : n.nets = (m : Int)) (hx : x ∈ n.ds) (hy : y ∈ n.ds) (hv : NlV w v n) (hu : IntSl w su (degs m n.ds)) (h : IntSl w sx x.pins) (h' : IntSl w sy y.pins) :
    Calls Tryz.prog 54 #[v, su, .agg #[.int .i64 x.kind, sx, .int .i64 x.wd, .int .i64 x.len], .agg #[.int .i64 y.kind, sy, .int .i64 y.wd, .int .i64 y.len]] w (SerPost n x y w) := by
  obtain ⟨hn24, hl, hpl, hdv, _⟩ := nlB_facts hn
  by_cases hk : x.kind = y.kind
  · obtain ⟨⟨p0, p1⟩, q0, q1⟩ := cur_in (hdv x hx)
    exact serial_same n m x y (curP x.pins).toNat (curQ x.pins).toNat su v sx sy w hv hu h h' (shp_of (hdv x hx)) (shp_of (hdv y hy)) hk (by omega) (by omega) (by omega) (by omega) (by omega) hpl
  · exact serial_kind n x y v su sx sy w hv h h' hk
theorem DvSl.le {w : World} {sv : Value} {xs : List Dv} (h : DvSl w sv xs) : xs.length ≤ 9223372036854775807 := by
  rcases h with ⟨_, _, _, h2⟩ | ⟨b, off, cap, h1, h2, h3, _⟩
  · subst h2; simp
  · unfold maxLen at h3; omega
/- firstPair over any closure. -/
set_option maxRecDepth 100000 in
set_option maxHeartbeats 1000000 in
theorem firstPair_no (x : Nl) (v f : Value) (w : World) (h : NlV w v x) (hok : ∀ p ∈ x.ps, p.ok) (hnn : Fits x.nets) (hv : nlB x = false) :
    Calls Tryz.prog 95 #[v, f] w fun e w' => e = .returned (.tuple #[.int .i64 0, .int .i64 0, .bool false]) ∧ Below w.heap.size w w' := by
  have HV := Lib.hid (fun v w h => implNl_any x v w h hok hnn)
  rw [hv] at HV
  have HN := Lib.hid h
  obtain ⟨a, c, a', c', rfl⟩ := h.sized
  clear h hok hv
  go_enter Tryz.func95, Tryz.ntmps95
  go_wp2_with (go_at_call 12; refine (HV.out _ _ (HN.out.by blwT)).mono ?_; rintro e w1 ⟨rfl, hb1⟩)
  go_ret3
  exact ⟨rfl, blwT⟩
set_option maxRecDepth 100000 in
set_option maxHeartbeats 4000000 in
theorem firstPair_yes (g : Nat) (lb : Array Value) (eg : ∀ args w, (callFunc g args).run Tryz.prog w = .ok (.enter g args) w) (p : Dv → Dv → Bool) (x : Nl) (v : Value) (w : World) (h : NlV w v x) (hok : ∀ p ∈ x.ps, p.ok) (hnn : Fits x.nets) (hv : nlB x = true)
    (hp : ∀ (W : World) (x' y' : Dv) (sx sy : Value), Below w.heap.size w W → x' ∈ x.ds → y' ∈ x.ds → IntSl W sx x'.pins → IntSl W sy y'.pins → Calls Tryz.prog g (#[.agg #[.int .i64 x'.kind, sx, .int .i64 x'.wd, .int .i64 x'.len], .agg #[.int .i64 y'.kind, sy, .int .i64 y'.wd, .int .i64 y'.len]] ++ lb) W fun e w' => e = .returned (.bool (p x' y')) ∧ Below W.heap.size W w') :
    Calls Tryz.prog 95 #[v, .func (.func g) #[] lb] w fun e w' => e = .returned (.tuple #[.int .i64 (firstP p x.ds).1, .int .i64 (firstP p x.ds).2.1, .bool (firstP p x.ds).2.2]) ∧ Below w.heap.size w w' := by
  have HV := Lib.hid (fun v w h => implNl_any x v w h hok hnn)
  rw [hv] at HV
  have HNV := Lib.hid h
  obtain ⟨s1, s2, rfl, hd, hp2⟩ := h
  obtain ⟨nets, ds, ps⟩ := x
  dsimp only at hd hp2 hp HNV HV ⊢
  have hdl := hd.le
  have HH := Lib.hid (fun i j => @firstP_hit p ds i j)
  have HM := Lib.hid (@firstP_miss p ds)
  have HD := Lib.hid hd
  have HP := Lib.hid hp
  clear hp hok hv hnn
  generalize firstP p ds = r at *
  obtain ⟨r1, r2, r3⟩ := r
  dsimp only
  obtain ⟨a1, c1, rfl⟩ := hd.sized
  obtain ⟨a2, c2, rfl⟩ := hp2.sized
  clear hd hp2
  go_enter Tryz.func95, Tryz.ntmps95
  go_wp2_with (go_at_call 12; refine (HV.out _ _ (HNV.out.by blwT)).mono ?_; rintro e w1 ⟨rfl, hb1⟩; have kN : Blk w1 w.heap.size #[.int .i64 nets, .slice a1 ds.length c1, .slice a2 ps.length c2] 27 := blkT; have cN := kN.cell; have hb : Below w.heap.size w w1 := blwT; clear hb1)
  go_loopw [16] (fun i wr => ∃ k : Nat, k ≤ ds.length ∧ i = .int .i64 k ∧ Hid (∀ (i' j' : Nat) x y, i' < k → i' < j' → ds[i']? = some x → ds[j']? = some y → p x y = false) ∧ Blk wr w.heap.size #[.int .i64 nets, .slice a1 ds.length c1, .slice a2 ps.length c2] 27 ∧ Below w.heap.size w wr) (fun i _ => ds.length - (intOf i).toNat)
  case atStart => exact ⟨0, Nat.zero_le _, rfl, Lib.hid (by intro i' j' x y h; omega), kN, hb⟩
  case round =>
    clear kN cN hb
    obtain ⟨k, hk, rfl, HI, kN, hb⟩ := hrel
    have cN := kN.cell
    have lN := kN.lt
    by_cases hlt : k < ds.length
    · obtain ⟨x, hx⟩ : ∃ x, ds[k]? = some x := ⟨ds[k], List.getElem?_eq_getElem hlt⟩
      have HDS := HD.out
      rcases HDS with ⟨_, _, _, h2⟩ | ⟨b, off, cap, he, h2, h3, h4⟩
      · rw [h2] at hlt; simp at hlt
      obtain ⟨rfl, rfl⟩ : a1 = some ⟨b, off, none⟩ ∧ c1 = cap := by simpa using he
      have HXX := Lib.hid hx
      have HDA := Lib.hid h4
      have i1 : (0 : Int) ≤ (k : Int) := by omega
      have i2 : (k : Int) < (ds.length : Int) := by omega
      clear h4 hx he
      obtain ⟨sx, e1, e2, e3, e4, hSx⟩ := HDA.out k x HXX.out
      have hxm : x ∈ ds := List.mem_of_getElem? HXX.out
      have HSX := Lib.hid hSx
      obtain ⟨ax, cx, rfl⟩ := hSx.len
      have d1 := cell_by' hb e1
      have d2 := cell_by' hb e2
      have d3 := cell_by' hb e3
      have d4 := cell_by' hb e4
      have lX := lt_of_cell d1
      dsimp only at lX
      obtain ⟨wo, rfl⟩ : ∃ wo : World, wo = wr := ⟨_, rfl⟩
      have kA : Blk (wo.alloc (.cells #[.int .i64 x.kind, .slice ax x.pins.length cx, .int .i64 x.wd, .int .i64 x.len] 46)) wo.heap.size #[.int .i64 x.kind, .slice ax x.pins.length cx, .int .i64 x.wd, .int .i64 x.len] 46 := Blk.new _ rfl
      clear hSx e1 e2 e3 e4
      go_wp2
      go_loopw [9] (fun j wr2 => ∃ m : Nat, k < m ∧ m ≤ ds.length ∧ j = .int .i64 m ∧ Hid (∀ (i' j' : Nat) x y, (i' < k ∨ i' = k ∧ j' < m) → i' < j' → ds[i']? = some x → ds[j']? = some y → p x y = false) ∧ Blk wr2 w.heap.size #[.int .i64 nets, .slice (some ⟨b, off, none⟩) ds.length c1, .slice a2 ps.length c2] 27 ∧ Blk wr2 wo.heap.size #[.int .i64 x.kind, .slice ax x.pins.length cx, .int .i64 x.wd, .int .i64 x.len] 46 ∧ Below w.heap.size w wr2) (fun j _ => ds.length - (intOf j).toNat)
      case atStart => exact ⟨k + 1, by omega, by omega, by go_num, Lib.hid (by intro i' j' x y h1 h2 h3 h4; exact HI.out i' j' x y (by omega) h2 h3 h4), kN.past _, kA, below_al hb _⟩
      case round =>
        clear kN kA hb cN HI d1 d2 d3 d4
        generalize wo.heap.size = pa at *
        obtain ⟨m, hkm, hm, rfl, HI, kN, kA, hb⟩ := hrel
        have cN := kN.cell
        have cA := kA.cell
        by_cases hlm : m < ds.length
        · obtain ⟨y, hy⟩ : ∃ y, ds[m]? = some y := ⟨ds[m], List.getElem?_eq_getElem hlm⟩
          obtain ⟨sy, f1, f2, f3, f4, hSy⟩ := HDA.out m y hy
          have hym : y ∈ ds := List.mem_of_getElem? hy
          have HYY := Lib.hid hy
          have HSY := Lib.hid hSy
          obtain ⟨ay, cy, rfl⟩ := hSy.len
          have g1 := cell_by' hb f1
          have g2 := cell_by' hb f2
          have g3 := cell_by' hb f3
          have g4 := cell_by' hb f4
          have HC := HP.out wr.drew x y (.slice ax x.pins.length cx) (.slice ay y.pins.length cy) hb.drew hxm hym (HSX.out.by hb.drew) (HSY.out.by hb.drew)
          have j1 : (0 : Int) ≤ (m : Int) := by omega
          have j2 : (m : Int) < (ds.length : Int) := by omega
          clear hSy hy f1 f2 f3 f4
          cases hq : p x y with
          | true =>
            simp only [hq] at HC
            have HC' := Lib.hid HC
            have hr := Lib.hid (HH.out k m ⟨hkm, ⟨x, y, HXX.out, HYY.out, hq⟩, HI.out⟩)
            clear HC hq
            go_wp2_with fail
            go_region_held3 (fun w' => (Blk w' w.heap.size #[.int .i64 nets, .slice (some ⟨b, off, none⟩) ds.length c1, .slice a2 ps.length c2] 27 ∧ ∀ o, w'.cell? ⟨w.heap.size, o, none⟩ = (#[.int .i64 nets, .slice (some ⟨b, off, none⟩) ds.length c1, .slice a2 ps.length c2] : Array Value)[o]?) ∧ (Blk w' pa #[.int .i64 x.kind, .slice ax x.pins.length cx, .int .i64 x.wd, .int .i64 x.len] 46 ∧ ∀ o, w'.cell? ⟨pa, o, none⟩ = (#[.int .i64 x.kind, .slice ax x.pins.length cx, .int .i64 x.wd, .int .i64 x.len] : Array Value)[o]?) ∧ (w'.cell? ⟨b, off + m * 4, none⟩ = some (.int .i64 y.kind) ∧ w'.cell? ⟨b, off + m * 4 + 1, none⟩ = some (.slice ay y.pins.length cy) ∧ w'.cell? ⟨b, off + m * 4 + 2, none⟩ = some (.int .i64 y.wd) ∧ w'.cell? ⟨b, off + m * 4 + 3, none⟩ = some (.int .i64 y.len)) ∧ Below w.heap.size w w')
              (first | exact ⟨kN.both, kA.both, ⟨g1, g2, g3, g4⟩, hb.drew⟩ | exact ⟨(Blk.by hb1 kN).both, (Blk.by hb1 kA).both, ⟨cell_by' hb1 g1, cell_by' hb1 g2, cell_by' hb1 g3, cell_by' hb1 g4⟩, below_on hb1 hb.drew⟩)
              (first | (go_at_fn g; refine HC'.out.mono ?_; rintro e w1 ⟨rfl, hb1⟩))
            go_wp2
            go_ret3
            exact ⟨by have := hr.out; simp only [Prod.mk.injEq] at this; obtain ⟨h1, h2, h3⟩ := this; subst h1 h2 h3; rfl, below_on hb1 hb.drew⟩
          | false =>
            simp only [hq] at HC
            have HC' := Lib.hid HC
            have HQ := Lib.hid hq
            clear HC hq
            go_wp2_with fail
            go_region_held3 (fun w' => (Blk w' w.heap.size #[.int .i64 nets, .slice (some ⟨b, off, none⟩) ds.length c1, .slice a2 ps.length c2] 27 ∧ ∀ o, w'.cell? ⟨w.heap.size, o, none⟩ = (#[.int .i64 nets, .slice (some ⟨b, off, none⟩) ds.length c1, .slice a2 ps.length c2] : Array Value)[o]?) ∧ (Blk w' pa #[.int .i64 x.kind, .slice ax x.pins.length cx, .int .i64 x.wd, .int .i64 x.len] 46 ∧ ∀ o, w'.cell? ⟨pa, o, none⟩ = (#[.int .i64 x.kind, .slice ax x.pins.length cx, .int .i64 x.wd, .int .i64 x.len] : Array Value)[o]?) ∧ (w'.cell? ⟨b, off + m * 4, none⟩ = some (.int .i64 y.kind) ∧ w'.cell? ⟨b, off + m * 4 + 1, none⟩ = some (.slice ay y.pins.length cy) ∧ w'.cell? ⟨b, off + m * 4 + 2, none⟩ = some (.int .i64 y.wd) ∧ w'.cell? ⟨b, off + m * 4 + 3, none⟩ = some (.int .i64 y.len)) ∧ Below w.heap.size w w')
              (first | exact ⟨kN.both, kA.both, ⟨g1, g2, g3, g4⟩, hb.drew⟩ | exact ⟨(Blk.by hb1 kN).both, (Blk.by hb1 kA).both, ⟨cell_by' hb1 g1, cell_by' hb1 g2, cell_by' hb1 g3, cell_by' hb1 g4⟩, below_on hb1 hb.drew⟩)
              (first | (go_at_fn g; refine HC'.out.mono ?_; rintro e w1 ⟨rfl, hb1⟩))
            go_wp2
            exact ⟨⟨m + 1, by omega, by omega, by go_num, Lib.hid (fun i' j' x' y' h1 h2 h3 h4 => by
              by_cases e : i' = k ∧ j' = m
              · obtain ⟨rfl, rfl⟩ := e
                obtain rfl : x' = x := Option.some.inj (h3.symm.trans HXX.out)
                obtain rfl : y' = y := Option.some.inj (h4.symm.trans HYY.out)
                exact HQ.out
              · exact HI.out i' j' x' y' (by omega) h2 h3 h4), Blk.by hb1 kN, Blk.by hb1 kA, below_on hb1 hb.drew⟩, by simp [intOf]; omega⟩
        · obtain rfl : m = ds.length := by omega
          go_wp2
          exact ⟨⟨k + 1, by omega, by go_num, Lib.hid (fun i' j' x' y' h1 h2 h3 h4 => HI.out i' j' x' y' (by have := (List.getElem?_eq_some_iff.1 h4).1; omega) h2 h3 h4), kN, hb⟩, by simp [intOf]; omega⟩
    · obtain rfl : k = ds.length := by omega
      have hr := Lib.hid (HM.out (fun i j x y hij hx hy => HI.out i j x y (List.getElem?_eq_some_iff.1 hx).1 hij hx hy))
      go_wp2
      go_ret3
      exact ⟨by have := hr.out; simp only [Prod.mk.injEq] at this; obtain ⟨h1, h2, h3⟩ := this; subst h1 h2 h3; rfl, hb⟩
/- l28Pair, for devices in series. -/
/- Both ParallelPair. -/
noncomputable def parPair (x : Nl) : Int × Int × Bool := if nlB x = true then firstP parB x.ds else (0, 0, false)
theorem parPair_no {x : Nl} (h : nlB x = false) : parPair x = (0, 0, false) := by simp [parPair, h]
theorem parPair_yes {x : Nl} (h : nlB x = true) : parPair x = firstP parB x.ds := by simp [parPair, h]
set_option maxRecDepth 100000 in
set_option maxHeartbeats 2000000 in
theorem implParallelPair_any (x : Nl) (v : Value) (w : World) (h : NlV w v x) (hok : ∀ p ∈ x.ps, p.ok) (hnn : Fits x.nets) :
    Calls Tryz.prog 52 #[v] w fun e w' => e = .returned (.tuple #[.int .i64 (parPair x).1, .int .i64 (parPair x).2.1, .bool (parPair x).2.2]) ∧ Below w.heap.size w w' := by
  have HN := Lib.hid h
  obtain ⟨a, c, a', c', rfl⟩ := h.sized
  cases hv : nlB x with
  | false =>
    have HP := Lib.hid (fun v f w h => firstPair_no x v f w h hok hnn hv)
    rw [parPair_no hv]
    clear hv h hok
    go_enter Tryz.func52, Tryz.ntmps52
    go_wp2_with (go_at_call 95; refine (HP.out _ _ _ (HN.out.by blwT)).mono ?_; rintro e w1 ⟨rfl, hb1⟩)
    go_ret3
    exact ⟨rfl, blwT⟩
  | true =>
    rw [parPair_yes hv]
    obtain ⟨_, _, _, hdv, _⟩ := nlB_facts hv
    have eg : ∀ args w, (callFunc 56 args).run Tryz.prog w = .ok (.enter 56 args) w := enters_of Tryz.func56 (by kernel_rfl) rfl
    have hcl : ∀ (W : World) (x' y' : Dv) (sx sy : Value), x' ∈ x.ds → y' ∈ x.ds → IntSl W sx x'.pins → IntSl W sy y'.pins → Calls Tryz.prog 56 (#[.agg #[.int .i64 x'.kind, sx, .int .i64 x'.wd, .int .i64 x'.len], .agg #[.int .i64 y'.kind, sy, .int .i64 y'.wd, .int .i64 y'.len]] ++ #[]) W fun e w' => e = .returned (.bool (parB x' y')) ∧ Below W.heap.size W w' := by
      intro W x' y' sx sy hx hy hsx hsy
      show Calls Tryz.prog 56 #[.agg #[.int .i64 x'.kind, sx, .int .i64 x'.wd, .int .i64 x'.len], .agg #[.int .i64 y'.kind, sy, .int .i64 y'.wd, .int .i64 y'.len]] W _
      exact parallel_any x' y' sx sy W hsx hsy (shp_of (hdv x' hx)) (shp_of (hdv y' hy))
    have HP := Lib.hid (fun v w h => firstPair_yes 56 #[] eg parB x v w h hok hnn hv (fun W x' y' sx sy _ hx hy h1 h2 => hcl W x' y' sx sy hx hy h1 h2))
    generalize firstP parB x.ds = r at *
    clear hv h hok hdv eg hcl
    go_enter Tryz.func52, Tryz.ntmps52
    go_wp2_with (go_at_call 95; refine (HP.out _ _ (HN.out.by blwT)).mono ?_; rintro e w1 ⟨rfl, hb1⟩)
    go_ret3
    exact ⟨rfl, blwT⟩
/- Both SeriesPair. -/
noncomputable def serPair (x : Nl) : Int × Int × Bool := if nlB x = true then firstP (serB x) x.ds else (0, 0, false)
theorem serPair_no {x : Nl} (h : nlB x = false) : serPair x = (0, 0, false) := by simp [serPair, h]
theorem serPair_yes {x : Nl} (h : nlB x = true) : serPair x = firstP (serB x) x.ds := by simp [serPair, h]
set_option maxRecDepth 100000 in
set_option maxHeartbeats 2000000 in
theorem spClosure_any (n : Nl) (m : Nat) (x y : Dv) (B1 B2 : Nat) (v su sx sy : Value) (W : World) (hn : nlB n = true) (hm : n.nets = (m : Int)) (hx : x ∈ n.ds) (hy : y ∈ n.ds) (hv : NlV W v n) (hu : IntSl W su (degs m n.ds)) (h : IntSl W sx x.pins) (h' : IntSl W sy y.pins)
    (cs : Array Value) (hvc : v = .agg cs) (hB1 : Blk W B1 cs 27) (hB2 : Blk W B2 #[su] 44) :
    Calls Tryz.prog 96 #[.agg #[.int .i64 x.kind, sx, .int .i64 x.wd, .int .i64 x.len], .agg #[.int .i64 y.kind, sy, .int .i64 y.wd, .int .i64 y.len], .pointer (some ⟨B1, 0, none⟩), .pointer (some ⟨B2, 0, none⟩)] W fun e w' => e = .returned (.bool (serB n x y)) ∧ Below W.heap.size W w' := by
  have HS := fun w hv hu h h' => (serial_any n m x y v su sx sy w hn hm hx hy hv hu h h').mono (R' := fun e w' => ∃ r1 : Int, e = .returned (.tuple #[.int .i64 r1, .bool (serB n x y)]) ∧ Below w.heap.size w w') (fun _ _ ⟨r1, h, _, hb⟩ => ⟨r1, h, hb⟩)
  have HNV := Lib.hid hv
  have HU := Lib.hid hu
  have HX := Lib.hid h
  have HY := Lib.hid h'
  replace HS := Lib.hid HS
  obtain ⟨an, cn, an', cn', rfl⟩ := hv.sized
  simp only [Value.agg.injEq] at hvc
  subst hvc
  obtain ⟨au, cu, rfl⟩ := hu.len
  obtain ⟨a, c, rfl⟩ := h.len
  obtain ⟨a', c', rfl⟩ := h'.len
  generalize (degs m n.ds).length = dl at *
  generalize serB n x y = sb at *
  have c1 := hB1.cell
  have c2 := hB2.cell
  have l1 := hB1.lt
  have l2 := hB2.lt
  clear hv hu h h' hn hm hx hy
  go_enter Tryz.func96, Tryz.ntmps96
  go_wp2_with (go_at_call 54; refine (HS.out _ (HNV.out.by blwT) (HU.out.by blwT) (HX.out.by blwT) (HY.out.by blwT)).mono ?_; rintro e w1 ⟨r1, rfl, hb1⟩)
  go_ret
  exact ⟨rfl, blwT⟩
set_option maxRecDepth 100000 in
set_option maxHeartbeats 4000000 in
theorem implSeriesPair_any (x : Nl) (v : Value) (w : World) (h : NlV w v x) (hok : ∀ p ∈ x.ps, p.ok) (hnn : Fits x.nets) :
    Calls Tryz.prog 53 #[v] w fun e w' => e = .returned (.tuple #[.int .i64 (serPair x).1, .int .i64 (serPair x).2.1, .bool (serPair x).2.2]) ∧ Below w.heap.size w w' := by
  have HV := Lib.hid (fun v w h => implNl_any x v w h hok hnn)
  have HN := Lib.hid h
  have hmf : ∀ (fn : Fn) (first cap : Array Value) (w : World), (Instr.makeFunc fn first cap).run Tryz.prog w = .ok (.func fn first cap) w := fun _ _ _ _ => rfl
  obtain ⟨a, c, a', c', rfl⟩ := h.sized
  cases hv : nlB x with
  | false =>
    rw [hv] at HV
    have HP := Lib.hid (fun v f w h => firstPair_no x v f w h hok hnn hv)
    rw [serPair_no hv]
    clear hv h hok
    go_enter Tryz.func53, Tryz.ntmps53
    go_wp2_with (first | (go_at_call 12; refine (HV.out _ _ (HN.out.by blwT)).mono ?_; rintro e w1 ⟨rfl, hb1⟩; have k0 : Blk w1 w.heap.size #[.int .i64 x.nets, .slice a x.ds.length c, .slice a' x.ps.length c'] 27 := blkT; have c0 := k0.cell; have hbw : Below w.heap.size w w1 := blwT) | (go_at_call 95; refine (HP.out _ _ _ (HN.out.by hbw)).mono ?_; rintro e w2 ⟨rfl, hb2⟩))
    go_ret3
    exact ⟨rfl, below_on hb2 hbw⟩
  | true =>
    rw [hv] at HV
    rw [serPair_yes hv]
    obtain ⟨⟨n0, n24⟩, hl, hp, hdv, _⟩ := nlB_facts hv
    obtain ⟨m, hm⟩ : ∃ m : Nat, x.nets = (m : Int) := ⟨x.nets.toNat, by omega⟩
    have HG := Lib.hid (fun v w h => degrees_any x m v w h hm (by omega) hl (fun d hd => (dvB_pins (hdv d hd)).1) (fun d hd => (dvB_pins (hdv d hd)).2.2))
    have eg : ∀ args w, (callFunc 96 args).run Tryz.prog w = .ok (.enter 96 args) w := enters_of Tryz.func96 (by kernel_rfl) rfl
    have hm24 : m ≤ 24 := by omega
    have hFP : ∀ (W : World) (gu : Nat), Blk W w.heap.size #[.int .i64 x.nets, .slice a x.ds.length c, .slice a' x.ps.length c'] 27 → Blk W (w.heap.size + 1) #[.slice (some ⟨gu, 0, none⟩) m m] 44 → NlV W (.agg #[.int .i64 x.nets, .slice a x.ds.length c, .slice a' x.ps.length c']) x → IntSl W (.slice (some ⟨gu, 0, none⟩) m m) (degs m x.ds) →
        Calls Tryz.prog 95 #[.agg #[.int .i64 x.nets, .slice a x.ds.length c, .slice a' x.ps.length c'], .func (.func 96) #[] #[.pointer (some ⟨w.heap.size, 0, none⟩), .pointer (some ⟨w.heap.size + 1, 0, none⟩)]] W fun e w' => e = .returned (.tuple #[.int .i64 (firstP (serB x) x.ds).1, .int .i64 (firstP (serB x) x.ds).2.1, .bool (firstP (serB x) x.ds).2.2]) ∧ Below W.heap.size W w' := by
      intro W gu hk0 hk1 hNW hUW
      refine firstPair_yes 96 #[.pointer (some ⟨w.heap.size, 0, none⟩), .pointer (some ⟨w.heap.size + 1, 0, none⟩)] eg (serB x) x _ W hNW hok hnn hv ?_
      intro W' x' y' sx sy hb hx hy hsx hsy
      show Calls Tryz.prog 96 #[.agg #[.int .i64 x'.kind, sx, .int .i64 x'.wd, .int .i64 x'.len], .agg #[.int .i64 y'.kind, sy, .int .i64 y'.wd, .int .i64 y'.len], .pointer (some ⟨w.heap.size, 0, none⟩), .pointer (some ⟨w.heap.size + 1, 0, none⟩)] W' _
      exact spClosure_any x m x' y' w.heap.size (w.heap.size + 1) _ (.slice (some ⟨gu, 0, none⟩) m m) sx sy W' hv hm hx hy (hNW.by hb) (hUW.by hb) hsx hsy _ rfl (Blk.by hb hk0) (Blk.by hb hk1)
    have HFP := Lib.hid hFP
    have HLD := Lib.hid (length_degs m x.ds)
    generalize firstP (serB x) x.ds = r at *
    clear hv h hok eg hFP hdv hm
    go_enter Tryz.func53, Tryz.ntmps53
    go_wp2_with fail
    refine (HV.out _ _ (HN.out.by blwT)).mono ?_
    rintro e w1 ⟨rfl, hb1⟩
    have k0 : Blk w1 w.heap.size #[.int .i64 x.nets, .slice a x.ds.length c, .slice a' x.ps.length c'] 27 := blkT
    have k1 : Blk w1 (w.heap.size + 1) #[.slice none 0 0] 44 := blkT
    have hbw : Below w.heap.size w w1 := blwT
    have c0 := k0.cell
    have l1w := k1.lt
    clear hb1
    go_wp2_with fail
    refine (HG.out _ _ (HN.out.by hbw)).mono ?_
    rintro e w2 ⟨g, rfl, hG, hge, hb2⟩
    replace k0 := Blk.by hb2 k0
    replace k1 := Blk.by hb2 k1
    have l1 := k1.lt
    replace hbw := below_on hb2 hbw
    have hne : g ≠ w.heap.size + 1 := by omega
    clear c0 hb2
    have c0 := k0.cell
    have c1 := k1.cell
    have f1 := k1.free
    have k1' := k1.set 0 (.slice (some ⟨g, 0, none⟩) m m)
    have k0' := k0.apart (w.heap.size + 1) 0 (.slice (some ⟨g, 0, none⟩) m m) (by omega)
    have hG' := hG.apart (w.heap.size + 1) 0 (.slice (some ⟨g, 0, none⟩) m m) hne
    have hbw' : Below w.heap.size w (w2.setCell ⟨w.heap.size + 1, 0, none⟩ (.slice (some ⟨g, 0, none⟩) m m)) := hbw.setCell (by simp) _
    have hsl := hG'.sl (by rw [HLD.out]; omega)
    rw [HLD.out] at hsl
    have HSL := Lib.hid hsl
    clear hsl hG hG'
    go_wp2_with fail
    refine (HFP.out _ g k0' k1' (HN.out.by hbw') HSL.out).mono ?_
    rintro e w3 ⟨rfl, hb3⟩
    go_wp2
    go_ret3
    exact ⟨rfl, below_on hb3 hbw'⟩
end Go.Proofs.YtacbdmngcdhgoaaGreat
