/- The program's parallel; the first pair, both packages. -/
import Derived.Test.YtdljbmfmmlcmmaaCmps
import Derived.Test.YtdljbmfmmlcmmaaSpecNl
import Derived.Test.YtdljbmfmmlcmmaaImplNl
import Derived.Shelf.Abstract
import Derived.Test.YtdljbmfmmlcmmaaSerB
import Derived.Test.YtdljbmfmmlcmmaaFidxs
namespace Go.Proofs.Ytdljbmfmmlcmmaa
open Go.RowKit
set_option linter.unusedVariables false
set_option linter.unusedSimpArgs false

set_option maxRecDepth 100000 in
set_option maxHeartbeats 4000000 in
theorem parallel_any (x y : Dv) (s t : Value) (w : World) (h : IntSl w s x.pins) (h' : IntSl w t y.pins) (hs : Shp x) (ht : Shp y) :
    Calls Try.prog 56 #[.agg #[.int .i64 x.kind, s, .int .i64 x.wd, .int .i64 x.len], .agg #[.int .i64 y.kind, t, .int .i64 y.wd, .int .i64 y.len]] w fun e w' => e = .returned (.bool (parB x y)) ∧ Below w.heap.size w w' := by
  have HB := Lib.hid (show parB x y = (decide (x.kind = y.kind) && ((decide (x.kind = 2) || decide (gateOf x.pins = gateOf y.pins)) && ((decide (x.kind = 2) || decide (x.len = y.len)) && ((decide (curP x.pins = curP y.pins) && decide (curQ x.pins = curQ y.pins)) || (decide (curP x.pins = curQ y.pins) && decide (curQ x.pins = curP y.pins)))))) from rfl)
  have HCX := Lib.hid (fun w h => currentPins_any x s w h hs)
  have HCY := Lib.hid (fun w h => currentPins_any y t w h ht)
  have HSG := fun w h h' => sameGate_any x y s t w h h' hs ht
  have HSB := Lib.hid (show sgB x y = (decide (x.kind = 2) || decide (gateOf x.pins = gateOf y.pins)) from rfl)
  generalize parB x y = r at *
  generalize sgB x y = sg at *
  have HX := Lib.hid h
  have HY := Lib.hid h'
  obtain ⟨a, c, rfl⟩ := h.len
  obtain ⟨a', c', rfl⟩ := h'.len
  clear h h' hs ht
  generalize x.pins.length = n1 at *
  generalize y.pins.length = n2 at *
  by_cases hk : x.kind = y.kind
  · have HK := Lib.hid hk
    have HS := Lib.hid (fun w h h' => HSG w h h' hk)
    rw [hk] at HS HCX
    rw [hk]
    clear HSG hk
    rcases Bool.eq_false_or_eq_true sg with hsg | hsg
    · subst hsg
      rcases Bool.eq_false_or_eq_true (y.kind != 2) with hk2 | hk2
      · rcases Bool.eq_false_or_eq_true (x.len != y.len) with hl | hl
        · have HL := Lib.hid hl
          have HK2 := Lib.hid hk2
          go_enter Try.func56, Try.ntmps56
          go_wp2_with (go_at_call 75; refine (HS.out _ (HX.out.by (by ((repeat (first | (with_reducible exact Below.refl _ _) | (with_reducible refine below_drewN ?_ _) | (with_reducible refine Below.drew ?_) | (with_reducible refine below_al ?_ _) | (with_reducible refine below_on (by assumption) ?_) | ((with_reducible refine Below.setCell ?_ ?_ _); rotate_left; focus (first | omega | (simp; done) | (simp; omega))) | (with_reducible assumption))); done))) (HY.out.by (by ((repeat (first | (with_reducible exact Below.refl _ _) | (with_reducible refine below_drewN ?_ _) | (with_reducible refine Below.drew ?_) | (with_reducible refine below_al ?_ _) | (with_reducible refine below_on (by assumption) ?_) | ((with_reducible refine Below.setCell ?_ ?_ _); rotate_left; focus (first | omega | (simp; done) | (simp; omega))) | (with_reducible assumption))); done)))).mono ?_; rintro e w1 ⟨rfl, hb1⟩; have k0 : Blk w1 w.heap.size #[.int .i64 y.kind, .slice a n1 c, .int .i64 x.wd, .int .i64 x.len] 35 := (by ((repeat (first | (with_reducible assumption) | (with_reducible refine Blk.drewN ?_ _) | (with_reducible refine Blk.drew ?_) | ((with_reducible refine Blk.new _ ?_); focus (first | omega | (simp; done) | (simp; omega))) | (with_reducible refine Blk.past ?_ _) | ((with_reducible refine Blk.apart ?_ _ _ _ ?_); rotate_left; focus (first | omega | (simp; done) | (simp; omega))) | (with_reducible refine Blk.by (by assumption) ?_))); done)); have k1 : Blk w1 (w.heap.size + 1) #[.int .i64 y.kind, .slice a' n2 c', .int .i64 y.wd, .int .i64 y.len] 35 := (by ((repeat (first | (with_reducible assumption) | (with_reducible refine Blk.drewN ?_ _) | (with_reducible refine Blk.drew ?_) | ((with_reducible refine Blk.new _ ?_); focus (first | omega | (simp; done) | (simp; omega))) | (with_reducible refine Blk.past ?_ _) | ((with_reducible refine Blk.apart ?_ _ _ _ ?_); rotate_left; focus (first | omega | (simp; done) | (simp; omega))) | (with_reducible refine Blk.by (by assumption) ?_))); done)); have c0 := k0.cell; have c1 := k1.cell)
          go_ret
          exact ⟨ret_bool (by rw [HB.out, HK.out]; have h1 := HL.out; have h2 := HK2.out; simp at h1 h2; simp [h1, h2]), (by ((repeat (first | (with_reducible exact Below.refl _ _) | (with_reducible refine below_drewN ?_ _) | (with_reducible refine Below.drew ?_) | (with_reducible refine below_al ?_ _) | (with_reducible refine below_on (by assumption) ?_) | ((with_reducible refine Below.setCell ?_ ?_ _); rotate_left; focus (first | omega | (simp; done) | (simp; omega))) | (with_reducible assumption))); done))⟩
        · have HL := Lib.hid hl
          have HK2 := Lib.hid hk2
          generalize curP x.pins = p at *
          generalize curQ x.pins = q at *
          generalize curP y.pins = p' at *
          generalize curQ y.pins = q' at *
          go_enter Try.func56, Try.ntmps56
          go_wp2_with (first | (go_at_call 75; refine (HS.out _ (HX.out.by (by ((repeat (first | (with_reducible exact Below.refl _ _) | (with_reducible refine below_drewN ?_ _) | (with_reducible refine Below.drew ?_) | (with_reducible refine below_al ?_ _) | (with_reducible refine below_on (by assumption) ?_) | ((with_reducible refine Below.setCell ?_ ?_ _); rotate_left; focus (first | omega | (simp; done) | (simp; omega))) | (with_reducible assumption))); done))) (HY.out.by (by ((repeat (first | (with_reducible exact Below.refl _ _) | (with_reducible refine below_drewN ?_ _) | (with_reducible refine Below.drew ?_) | (with_reducible refine below_al ?_ _) | (with_reducible refine below_on (by assumption) ?_) | ((with_reducible refine Below.setCell ?_ ?_ _); rotate_left; focus (first | omega | (simp; done) | (simp; omega))) | (with_reducible assumption))); done)))).mono ?_; rintro e w1 ⟨rfl, hb1⟩; have k0 : Blk w1 w.heap.size #[.int .i64 y.kind, .slice a n1 c, .int .i64 x.wd, .int .i64 x.len] 35 := (by ((repeat (first | (with_reducible assumption) | (with_reducible refine Blk.drewN ?_ _) | (with_reducible refine Blk.drew ?_) | ((with_reducible refine Blk.new _ ?_); focus (first | omega | (simp; done) | (simp; omega))) | (with_reducible refine Blk.past ?_ _) | ((with_reducible refine Blk.apart ?_ _ _ _ ?_); rotate_left; focus (first | omega | (simp; done) | (simp; omega))) | (with_reducible refine Blk.by (by assumption) ?_))); done)); have k1 : Blk w1 (w.heap.size + 1) #[.int .i64 y.kind, .slice a' n2 c', .int .i64 y.wd, .int .i64 y.len] 35 := (by ((repeat (first | (with_reducible assumption) | (with_reducible refine Blk.drewN ?_ _) | (with_reducible refine Blk.drew ?_) | ((with_reducible refine Blk.new _ ?_); focus (first | omega | (simp; done) | (simp; omega))) | (with_reducible refine Blk.past ?_ _) | ((with_reducible refine Blk.apart ?_ _ _ _ ?_); rotate_left; focus (first | omega | (simp; done) | (simp; omega))) | (with_reducible refine Blk.by (by assumption) ?_))); done)); have c0 := k0.cell; have c1 := k1.cell; have hW : Below w.heap.size w w1 := (by ((repeat (first | (with_reducible exact Below.refl _ _) | (with_reducible refine below_drewN ?_ _) | (with_reducible refine Below.drew ?_) | (with_reducible refine below_al ?_ _) | (with_reducible refine below_on (by assumption) ?_) | ((with_reducible refine Below.setCell ?_ ?_ _); rotate_left; focus (first | omega | (simp; done) | (simp; omega))) | (with_reducible assumption))); done))) | (go_at_call_of 63 (Value.slice a n1 c); refine (HCX.out _ (HX.out.by hW)).mono ?_; rintro e w2 ⟨rfl, hb2⟩; replace k1 := Blk.by hb2 k1; replace hW := below_on hb2 hW; clear c1 c0; have c1 := k1.cell) | (go_at_call 63; refine (HCY.out _ (HY.out.by hW)).mono ?_; rintro e w3 ⟨rfl, hb3⟩; replace hW := below_on hb3 hW))
          all_goals
            go_ret
            exact ⟨ret_bool (by rw [HB.out, HK.out]; have h0 := HSB.out; have h1 := HL.out; have h2 := HK2.out; simp at h1 h2; simp [HK.out, h2] at h0; rw [Bool.eq_iff_iff]; simp_all), hW⟩
      · have HK2 := Lib.hid hk2
        generalize curP x.pins = p at *
        generalize curQ x.pins = q at *
        generalize curP y.pins = p' at *
        generalize curQ y.pins = q' at *
        go_enter Try.func56, Try.ntmps56
        go_wp2_with (first | (go_at_call 75; refine (HS.out _ (HX.out.by (by ((repeat (first | (with_reducible exact Below.refl _ _) | (with_reducible refine below_drewN ?_ _) | (with_reducible refine Below.drew ?_) | (with_reducible refine below_al ?_ _) | (with_reducible refine below_on (by assumption) ?_) | ((with_reducible refine Below.setCell ?_ ?_ _); rotate_left; focus (first | omega | (simp; done) | (simp; omega))) | (with_reducible assumption))); done))) (HY.out.by (by ((repeat (first | (with_reducible exact Below.refl _ _) | (with_reducible refine below_drewN ?_ _) | (with_reducible refine Below.drew ?_) | (with_reducible refine below_al ?_ _) | (with_reducible refine below_on (by assumption) ?_) | ((with_reducible refine Below.setCell ?_ ?_ _); rotate_left; focus (first | omega | (simp; done) | (simp; omega))) | (with_reducible assumption))); done)))).mono ?_; rintro e w1 ⟨rfl, hb1⟩; have k0 : Blk w1 w.heap.size #[.int .i64 y.kind, .slice a n1 c, .int .i64 x.wd, .int .i64 x.len] 35 := (by ((repeat (first | (with_reducible assumption) | (with_reducible refine Blk.drewN ?_ _) | (with_reducible refine Blk.drew ?_) | ((with_reducible refine Blk.new _ ?_); focus (first | omega | (simp; done) | (simp; omega))) | (with_reducible refine Blk.past ?_ _) | ((with_reducible refine Blk.apart ?_ _ _ _ ?_); rotate_left; focus (first | omega | (simp; done) | (simp; omega))) | (with_reducible refine Blk.by (by assumption) ?_))); done)); have k1 : Blk w1 (w.heap.size + 1) #[.int .i64 y.kind, .slice a' n2 c', .int .i64 y.wd, .int .i64 y.len] 35 := (by ((repeat (first | (with_reducible assumption) | (with_reducible refine Blk.drewN ?_ _) | (with_reducible refine Blk.drew ?_) | ((with_reducible refine Blk.new _ ?_); focus (first | omega | (simp; done) | (simp; omega))) | (with_reducible refine Blk.past ?_ _) | ((with_reducible refine Blk.apart ?_ _ _ _ ?_); rotate_left; focus (first | omega | (simp; done) | (simp; omega))) | (with_reducible refine Blk.by (by assumption) ?_))); done)); have c0 := k0.cell; have c1 := k1.cell; have hW : Below w.heap.size w w1 := (by ((repeat (first | (with_reducible exact Below.refl _ _) | (with_reducible refine below_drewN ?_ _) | (with_reducible refine Below.drew ?_) | (with_reducible refine below_al ?_ _) | (with_reducible refine below_on (by assumption) ?_) | ((with_reducible refine Below.setCell ?_ ?_ _); rotate_left; focus (first | omega | (simp; done) | (simp; omega))) | (with_reducible assumption))); done))) | (go_at_call_of 63 (Value.slice a n1 c); refine (HCX.out _ (HX.out.by hW)).mono ?_; rintro e w2 ⟨rfl, hb2⟩; replace k1 := Blk.by hb2 k1; replace hW := below_on hb2 hW; clear c1 c0; have c1 := k1.cell) | (go_at_call 63; refine (HCY.out _ (HY.out.by hW)).mono ?_; rintro e w3 ⟨rfl, hb3⟩; replace hW := below_on hb3 hW))
        all_goals
          go_ret
          exact ⟨ret_bool (by rw [HB.out, HK.out]; have h2 := HK2.out; simp at h2; rw [Bool.eq_iff_iff]; simp_all), hW⟩
    · subst hsg
      go_enter Try.func56, Try.ntmps56
      go_wp2_with (go_at_call 75; refine (HS.out _ (HX.out.by (by ((repeat (first | (with_reducible exact Below.refl _ _) | (with_reducible refine below_drewN ?_ _) | (with_reducible refine Below.drew ?_) | (with_reducible refine below_al ?_ _) | (with_reducible refine below_on (by assumption) ?_) | ((with_reducible refine Below.setCell ?_ ?_ _); rotate_left; focus (first | omega | (simp; done) | (simp; omega))) | (with_reducible assumption))); done))) (HY.out.by (by ((repeat (first | (with_reducible exact Below.refl _ _) | (with_reducible refine below_drewN ?_ _) | (with_reducible refine Below.drew ?_) | (with_reducible refine below_al ?_ _) | (with_reducible refine below_on (by assumption) ?_) | ((with_reducible refine Below.setCell ?_ ?_ _); rotate_left; focus (first | omega | (simp; done) | (simp; omega))) | (with_reducible assumption))); done)))).mono ?_; rintro e w1 ⟨rfl, hb1⟩)
      go_ret
      exact ⟨ret_bool (by have h0 := HSB.out; simp at h0; rw [HB.out]; simp [h0]), (by ((repeat (first | (with_reducible exact Below.refl _ _) | (with_reducible refine below_drewN ?_ _) | (with_reducible refine Below.drew ?_) | (with_reducible refine below_al ?_ _) | (with_reducible refine below_on (by assumption) ?_) | ((with_reducible refine Below.setCell ?_ ?_ _); rotate_left; focus (first | omega | (simp; done) | (simp; omega))) | (with_reducible assumption))); done))⟩
  · have hk' : (x.kind != y.kind) = true := by simpa using hk
    have HK := Lib.hid hk
    clear hk
    go_enter Try.func56, Try.ntmps56
    go_wp2
    go_ret
    exact ⟨ret_bool (by rw [HB.out]; simp [HK.out]), (by ((repeat (first | (with_reducible exact Below.refl _ _) | (with_reducible refine below_drewN ?_ _) | (with_reducible refine Below.drew ?_) | (with_reducible refine below_al ?_ _) | (with_reducible refine below_on (by assumption) ?_) | ((with_reducible refine Below.setCell ?_ ?_ _); rotate_left; focus (first | omega | (simp; done) | (simp; omega))) | (with_reducible assumption))); done))⟩
end Go.Proofs.Ytdljbmfmmlcmmaa

/- l28Common. -/
namespace Go.Proofs.Ytdljbmfmmlcmmaa
open Go.RowKit
set_option linter.unusedVariables false
set_option linter.unusedSimpArgs false

def c1C (p r s : Int) : Int := if p = r ∨ p = s then 1 else 0
def n1N (p r s : Int) : Int := if p = r ∨ p = s then p else 0
theorem comC_eq (p q r s : Int) : comC p q r s = c1C p r s + c1C q r s := rfl
theorem comN_eq (p q r s : Int) : comN p q r s = if q = r ∨ q = s then q else n1N p r s := rfl
theorem comC_bd (p r s : Int) : 0 ≤ c1C p r s ∧ c1C p r s ≤ 1 := by unfold c1C; split <;> omega
theorem c1_yes {p r s : Int} (h : p = r ∨ p = s) : c1C p r s = 1 ∧ n1N p r s = p := by simp [c1C, n1N, h]
theorem c1_no {p r s : Int} (h : ¬ (p = r ∨ p = s)) : c1C p r s = 0 ∧ n1N p r s = 0 := by simp [c1C, n1N, h]

end Go.Proofs.Ytdljbmfmmlcmmaa

/- l28Series. -/
namespace Go.Proofs.Ytdljbmfmmlcmmaa
open Go.RowKit
set_option linter.unusedVariables false
set_option linter.unusedSimpArgs false

/-- What a test of two devices for a series answers. -/
def SerPost (n : Nl) (x y : Dv) (w : World) (e : Ending) (w' : World) : Prop := ∃ r1 : Int, e = .returned (.tuple #[.int .i64 r1, .bool (serB n x y)]) ∧ (serB n x y = true → r1 = serN x y) ∧ Below w.heap.size w w'
theorem preB_kind {x y : Dv} (h : x.kind ≠ y.kind) : preB x y = false := by simp [preB, h]
theorem preB_par {x y : Dv} (h : parB x y = true) : preB x y = false := by simp [preB, h]
theorem preB_sx {x y : Dv} (h : decide (curP x.pins = curQ x.pins) = true) : preB x y = false := by simp only [preB, h]; simp
theorem preB_sy {x y : Dv} (h : decide (curP y.pins = curQ y.pins) = true) : preB x y = false := by simp only [preB, h]; simp
theorem preB_of {x y : Dv} (h0 : x.kind = y.kind) (h : parB x y = false) (h1 : decide (curP x.pins = curQ x.pins) = false) (h2 : decide (curP y.pins = curQ y.pins) = false) : preB x y = (decide (x.kind = 2) || (decide (gateOf x.pins = gateOf y.pins) && decide (x.wd = y.wd))) := by
  simp only [preB, h0, h, h1, h2]; simp

end Go.Proofs.Ytdljbmfmmlcmmaa

/- The program's serial. -/
namespace Go.Proofs.Ytdljbmfmmlcmmaa
open Go.RowKit
set_option linter.unusedVariables false
set_option linter.unusedSimpArgs false

set_option maxRecDepth 100000 in
theorem serClosure_any (o : Pt) (net : Int) (B : Nat) (W : World) (hc : W.cell? ⟨B, 0, none⟩ = some (.int .i64 net)) :
    Calls Try.prog 77 #[.agg #[.string o.name, .int .i64 o.net], .pointer (some ⟨B, 0, none⟩)] W fun e w' => e = .returned (.bool (decide (o.net = net))) ∧ Below W.heap.size W w' := by
  have hB := lt_of_cell hc
  dsimp only at hB
  go_enter Try.func77, Try.ntmps77
  go_wp2
  go_ret
  exact ⟨ret_bool (by rw [Bool.eq_iff_iff]; simp), (by ((repeat (first | (with_reducible exact Below.refl _ _) | (with_reducible refine below_drewN ?_ _) | (with_reducible refine Below.drew ?_) | (with_reducible refine below_al ?_ _) | (with_reducible refine below_on (by assumption) ?_) | ((with_reducible refine Below.setCell ?_ ?_ _); rotate_left; focus (first | omega | (simp; done) | (simp; omega))) | (with_reducible assumption))); done))⟩

theorem serContains (g : Nat) (ps : List Pt) (sv : Value) (net : Int) (B : Nat) (w : World) (h : PtSl w sv ps) (hc : w.cell? ⟨B, 0, none⟩ = some (.int .i64 net)) :
    Calls Try.prog 76 #[sv, .func (.func 77) #[] #[.pointer (some ⟨B, 0, none⟩)]] w fun e w' => e = .returned (.bool (portB ps net)) ∧ Below w.heap.size w w' := by
  have eg : ∀ args w, (callFunc 77 args).run Try.prog w = .ok (.enter 77 args) w := enters_of Try.func77 (by kernel_rfl) rfl
  refine containsFuncP_any 77 #[.pointer (some ⟨B, 0, none⟩)] eg (fun o => decide (o.net = net)) sv ps w h ?_
  intro W o hb _
  show Calls Try.prog 77 #[.agg #[.string o.name, .int .i64 o.net], .pointer (some ⟨B, 0, none⟩)] W _
  exact serClosure_any o net B W (cell_by' hb hc)

theorem preB_sg {x y : Dv} (h : sgB x y = false) : preB x y = false := by
  simp only [sgB, Bool.or_eq_false_iff] at h
  simp only [preB, h]; simp
theorem preB_wd {x y : Dv} (h : decide (x.kind = 2) = false) (h' : decide (x.wd = y.wd) = false) : preB x y = false := by
  simp only [preB, h, h']; simp
theorem preB_all {x y : Dv} (h0 : x.kind = y.kind) (h : parB x y = false) (h1 : shB x = false) (h2 : shB y = false) (h3 : sgB x y = true) (h4 : x.kind = 2 ∨ x.wd = y.wd) : preB x y = true := by
  simp only [shB] at h1 h2
  simp only [preB, h0, h, h1, h2]
  simp only [sgB, h0] at h3
  rw [h0] at h4
  simp at h3
  rcases h4 with h4 | h4
  · simp [h4]
  · rcases h3 with h3 | h3
    · simp [h3]
    · simp [h3, h4]
theorem one_both {p q r s : Int} (h : p = r ∨ p = s) (h' : q = r ∨ q = s) : decide (comC p q r s = 1) = false := by simp [comC, h, h']
theorem one_none {p q r s : Int} (h : ¬ (p = r ∨ p = s)) (h' : ¬ (q = r ∨ q = s)) : decide (comC p q r s = 1) = false := by simp [comC, h, h']
theorem one_q {p q r s : Int} (h : ¬ (p = r ∨ p = s)) (h' : q = r ∨ q = s) : decide (comC p q r s = 1) = true ∧ comN p q r s = q := by simp [comC, comN, h, h']
theorem one_p {p q r s : Int} (h : p = r ∨ p = s) (h' : ¬ (q = r ∨ q = s)) : decide (comC p q r s = 1) = true ∧ comN p q r s = p := by simp [comC, comN, h, h']

set_option maxRecDepth 100000 in
set_option maxHeartbeats 16000000 in
theorem serial_same (n : Nl) (m : Nat) (x y : Dv) (pn qn : Nat) (su v sx sy : Value) (w : World) (hv : NlV w v n) (hu : IntSl w su (degs m n.ds)) (h : IntSl w sx x.pins) (h' : IntSl w sy y.pins) (hs : Shp x) (ht : Shp y) (hk : x.kind = y.kind)
    (hp : curP x.pins = (pn : Int)) (hq : curQ x.pins = (qn : Int)) (hpm : pn < m) (hqm : qn < m) (hm : m ≤ 24) (hpl : n.ps.length ≤ 8) :
    Calls Try.prog 55 #[v, su, .agg #[.int .i64 x.kind, sx, .int .i64 x.wd, .int .i64 x.len], .agg #[.int .i64 y.kind, sy, .int .i64 y.wd, .int .i64 y.len]] w (SerPost n x y w) := by
  have HX := Lib.hid h
  have HY := Lib.hid h'
  have HN := Lib.hid hv
  have HPA := fun w h h' => parallel_any x y sx sy w h h' hs ht
  have HSX := fun w h => shorted_any x sx w h hs
  have HSY := fun w h => shorted_any y sy w h ht
  have HSG := fun w h h' => sameGate_any x y sx sy w h h' hs ht hk
  have HCX := fun w h => currentPins_any x sx w h hs
  have HCY := fun w h => currentPins_any y sy w h ht
  have H1 := Lib.hid (fun h => serB_pre (n := n) (preB_par (x := x) (y := y) h))
  have H2 := Lib.hid (fun h => serB_pre (n := n) (preB_sx (x := x) (y := y) h))
  have H3 := Lib.hid (fun h => serB_pre (n := n) (preB_sy (x := x) (y := y) h))
  have H4 := Lib.hid (fun h => serB_pre (n := n) (preB_sg (x := x) (y := y) h))
  have H5 := Lib.hid (fun h h' => serB_pre (n := n) (preB_wd (x := x) (y := y) h h'))
  have HALL := Lib.hid (preB_all (x := x) (y := y) hk)
  have H6 := Lib.hid (@serB_one n x y)
  have H7 := Lib.hid (@serB_use n x y)
  have H8 := Lib.hid (show oneB x y = decide (comC (curP x.pins) (curQ x.pins) (curP y.pins) (curQ y.pins) = 1) from rfl)
  have H10 := Lib.hid (show serN x y = comN (curP x.pins) (curQ x.pins) (curP y.pins) (curQ y.pins) from rfl)
  have H9 := Lib.hid (fun net => show useB n net = (decide (degN n.ds net = 2) && !portB n.ps net) from rfl)
  have HSHX := Lib.hid (show shB x = decide (curP x.pins = curQ x.pins) from rfl)
  have HSHY := Lib.hid (show shB y = decide (curP y.pins = curQ y.pins) from rfl)
  have HDP := Lib.hid (degs_get m n.ds pn hpm)
  have HDQ := Lib.hid (degs_get m n.ds qn hqm)
  have HDL := Lib.hid (length_degs m n.ds)
  have HU := Lib.hid hu
  have HCF := Lib.hid (fun sv net B w h hc => serContains 0 n.ps sv net B w h hc)
  have HPS : ∃ s2, ∃ s1, v = .agg #[.int .i64 n.nets, s1, s2] ∧ PtSl w s2 n.ps := by obtain ⟨s1, s2, e1, _, e3⟩ := hv; exact ⟨s2, s1, e1, e3⟩
  have hmf : ∀ (fn : Fn) (first cap : Array Value) (w : World), (Instr.makeFunc fn first cap).run Try.prog w = .ok (.func fn first cap) w := fun _ _ _ _ => rfl
  obtain ⟨an, cn, an', cn', rfl⟩ := hv.sized
  obtain ⟨s2, s1, e1, hPS⟩ := HPS
  simp only [Value.agg.injEq, Array.mk.injEq, List.cons.injEq, and_true, true_and] at e1
  obtain ⟨rfl, rfl⟩ := e1
  have HPS := Lib.hid hPS
  obtain ⟨au, cu, rfl⟩ := hu.len
  rw [length_degs] at HU ⊢
  obtain ⟨a, c, rfl⟩ := h.len
  obtain ⟨a', c', rfl⟩ := h'.len
  have HPO2 := Lib.hid (show SerPost n x y w = fun e w' => ∃ r1 : Int, e = .returned (.tuple #[.int .i64 r1, .bool (serB n x y)]) ∧ (serB n x y = true → r1 = serN x y) ∧ Below w.heap.size w w' from rfl)
  generalize SerPost n x y w = PP at *
  rw [hp, hq] at HCX H8 H10 HSHX
  have hcy : ∃ r s : Int, curP y.pins = r ∧ curQ y.pins = s := ⟨_, _, rfl, rfl⟩
  obtain ⟨r, s, hr, hs'⟩ := hcy
  rw [hr, hs'] at HCY H8 H10 HSHY
  rw [hp, hq] at H2
  rw [hr, hs'] at H3
  rw [← HSHX.out] at H2
  rw [← HSHY.out] at H3
  have HONEB := Lib.hid (fun (h : (pn : Int) = r ∨ (pn : Int) = s) (h' : (qn : Int) = r ∨ (qn : Int) = s) => H8.out.trans (one_both h h'))
  have HONEN := Lib.hid (fun (h : ¬ ((pn : Int) = r ∨ (pn : Int) = s)) (h' : ¬ ((qn : Int) = r ∨ (qn : Int) = s)) => H8.out.trans (one_none h h'))
  have HONEQ := Lib.hid (fun (h : ¬ ((pn : Int) = r ∨ (pn : Int) = s)) (h' : (qn : Int) = r ∨ (qn : Int) = s) => (⟨H8.out.trans (one_q h h').1, H10.out.trans (one_q h h').2⟩ : oneB x y = true ∧ serN x y = (qn : Int)))
  have HONEP := Lib.hid (fun (h : (pn : Int) = r ∨ (pn : Int) = s) (h' : ¬ ((qn : Int) = r ∨ (qn : Int) = s)) => (⟨H8.out.trans (one_p h h').1, H10.out.trans (one_p h h').2⟩ : oneB x y = true ∧ serN x y = (pn : Int)))
  rw [hk] at HPA HSX HSG HCX
  rw [hk]
  generalize x.pins.length = n1 at *
  generalize y.pins.length = n2 at *
  replace HPA := Lib.hid HPA
  replace HSX := Lib.hid HSX
  replace HSY := Lib.hid HSY
  replace HSG := Lib.hid HSG
  replace HCX := Lib.hid HCX
  replace HCY := Lib.hid HCY
  have HKK := Lib.hid hk
  generalize parB x y = pb at *
  generalize serB n x y = sb at *
  generalize preB x y = pr at *
  generalize oneB x y = ob at *
  generalize shB x = shx at *
  generalize shB y = shy at *
  generalize sgB x y = sg at *
  have k0 : Blk (((w.alloc (.cells #[.int .i64 n.nets, .slice an n.ds.length cn, .slice an' n.ps.length cn'] 27)).alloc (.cells #[.int .i64 y.kind, .slice a n1 c, .int .i64 x.wd, .int .i64 x.len] 35)).alloc (.cells #[.int .i64 y.kind, .slice a' n2 c', .int .i64 y.wd, .int .i64 y.len] 35)) w.heap.size #[.int .i64 n.nets, .slice an n.ds.length cn, .slice an' n.ps.length cn'] 27 := (by ((repeat (first | (with_reducible assumption) | (with_reducible refine Blk.drewN ?_ _) | (with_reducible refine Blk.drew ?_) | ((with_reducible refine Blk.new _ ?_); focus (first | omega | (simp; done) | (simp; omega))) | (with_reducible refine Blk.past ?_ _) | ((with_reducible refine Blk.apart ?_ _ _ _ ?_); rotate_left; focus (first | omega | (simp; done) | (simp; omega))) | (with_reducible refine Blk.by (by assumption) ?_))); done))
  have k1 : Blk (((w.alloc (.cells #[.int .i64 n.nets, .slice an n.ds.length cn, .slice an' n.ps.length cn'] 27)).alloc (.cells #[.int .i64 y.kind, .slice a n1 c, .int .i64 x.wd, .int .i64 x.len] 35)).alloc (.cells #[.int .i64 y.kind, .slice a' n2 c', .int .i64 y.wd, .int .i64 y.len] 35)) (w.heap.size + 1) #[.int .i64 y.kind, .slice a n1 c, .int .i64 x.wd, .int .i64 x.len] 35 := (by ((repeat (first | (with_reducible assumption) | (with_reducible refine Blk.drewN ?_ _) | (with_reducible refine Blk.drew ?_) | ((with_reducible refine Blk.new _ ?_); focus (first | omega | (simp; done) | (simp; omega))) | (with_reducible refine Blk.past ?_ _) | ((with_reducible refine Blk.apart ?_ _ _ _ ?_); rotate_left; focus (first | omega | (simp; done) | (simp; omega))) | (with_reducible refine Blk.by (by assumption) ?_))); done))
  have k2_ : Blk (((w.alloc (.cells #[.int .i64 n.nets, .slice an n.ds.length cn, .slice an' n.ps.length cn'] 27)).alloc (.cells #[.int .i64 y.kind, .slice a n1 c, .int .i64 x.wd, .int .i64 x.len] 35)).alloc (.cells #[.int .i64 y.kind, .slice a' n2 c', .int .i64 y.wd, .int .i64 y.len] 35)) (w.heap.size + 1 + 1) #[.int .i64 y.kind, .slice a' n2 c', .int .i64 y.wd, .int .i64 y.len] 35 := (by ((repeat (first | (with_reducible assumption) | (with_reducible refine Blk.drewN ?_ _) | (with_reducible refine Blk.drew ?_) | ((with_reducible refine Blk.new _ ?_); focus (first | omega | (simp; done) | (simp; omega))) | (with_reducible refine Blk.past ?_ _) | ((with_reducible refine Blk.apart ?_ _ _ _ ?_); rotate_left; focus (first | omega | (simp; done) | (simp; omega))) | (with_reducible refine Blk.by (by assumption) ?_))); done))
  have hW : Below w.heap.size w (((w.alloc (.cells #[.int .i64 n.nets, .slice an n.ds.length cn, .slice an' n.ps.length cn'] 27)).alloc (.cells #[.int .i64 y.kind, .slice a n1 c, .int .i64 x.wd, .int .i64 x.len] 35)).alloc (.cells #[.int .i64 y.kind, .slice a' n2 c', .int .i64 y.wd, .int .i64 y.len] 35)) := (by ((repeat (first | (with_reducible exact Below.refl _ _) | (with_reducible refine below_drewN ?_ _) | (with_reducible refine Below.drew ?_) | (with_reducible refine below_al ?_ _) | (with_reducible refine below_on (by assumption) ?_) | ((with_reducible refine Below.setCell ?_ ?_ _); rotate_left; focus (first | omega | (simp; done) | (simp; omega))) | (with_reducible assumption))); done))
  have e0 := k0.cell
  have e1 := k1.cell
  have e2 := k2_.cell
  clear hv h h' hs ht hk hp hq hu hr hs' H8 H10 HSHX HSHY hPS
  cases sg with
  | false =>
    have hsb := H4.out rfl
    subst hsb
    go_enter Try.func55, Try.ntmps55
    go_wp2_with (first | (go_at_call 75; refine (HSG.out _ (HX.out.by hW) (HY.out.by hW)).mono ?_; rintro e w1 ⟨rfl, hb⟩; replace k0 := Blk.by hb k0; replace k1 := Blk.by hb k1; replace k2_ := Blk.by hb k2_; replace hW := below_on hb hW; clear hb e0 e1 e2; have e0 := k0.cell; have e1 := k1.cell; have e2 := k2_.cell; have l0 := k0.lt; have l1 := k1.lt; have l2 := k2_.lt) | (go_at_call 56; refine (HPA.out _ (HX.out.by hW) (HY.out.by hW)).mono ?_; rintro e w1 ⟨rfl, hb⟩; replace k0 := Blk.by hb k0; replace k1 := Blk.by hb k1; replace k2_ := Blk.by hb k2_; replace hW := below_on hb hW; clear hb e0 e1 e2; have e0 := k0.cell; have e1 := k1.cell; have e2 := k2_.cell; have l0 := k0.lt; have l1 := k1.lt; have l2 := k2_.lt) | (go_at_call_of 39 (Value.slice a n1 c); refine (HSX.out _ (HX.out.by hW)).mono ?_; rintro e w2 ⟨rfl, hb⟩; replace k0 := Blk.by hb k0; replace k1 := Blk.by hb k1; replace k2_ := Blk.by hb k2_; replace hW := below_on hb hW; clear hb e0 e1 e2; have e0 := k0.cell; have e1 := k1.cell; have e2 := k2_.cell; have l0 := k0.lt; have l1 := k1.lt; have l2 := k2_.lt) | (go_at_call 39; refine (HSY.out _ (HY.out.by hW)).mono ?_; rintro e w3 ⟨rfl, hb⟩; replace k0 := Blk.by hb k0; replace k1 := Blk.by hb k1; replace k2_ := Blk.by hb k2_; replace hW := below_on hb hW; clear hb e0 e1 e2; have e0 := k0.cell; have e1 := k1.cell; have e2 := k2_.cell; have l0 := k0.lt; have l1 := k1.lt; have l2 := k2_.lt) | (go_at_call_of 63 (Value.slice a n1 c); refine (HCX.out _ (HX.out.by hW)).mono ?_; rintro e w4 ⟨rfl, hb⟩; replace k0 := Blk.by hb k0; replace k1 := Blk.by hb k1; replace k2_ := Blk.by hb k2_; replace hW := below_on hb hW; clear hb e0 e1 e2; have e0 := k0.cell; have e1 := k1.cell; have e2 := k2_.cell; have l0 := k0.lt; have l1 := k1.lt; have l2 := k2_.lt) | (go_at_call 63; refine (HCY.out _ (HY.out.by hW)).mono ?_; rintro e w5 ⟨rfl, hb⟩; replace k0 := Blk.by hb k0; replace k1 := Blk.by hb k1; replace k2_ := Blk.by hb k2_; replace hW := below_on hb hW; clear hb e0 e1 e2; have e0 := k0.cell; have e1 := k1.cell; have e2 := k2_.cell; have l0 := k0.lt; have l1 := k1.lt; have l2 := k2_.lt))
    rw [HPO2.out]
    exact ⟨0, rfl, (fun h => by cases h), (by first | exact hW | exact below_al hW _)⟩
  | true =>
  rcases (by by_cases h : y.kind = 2 <;> by_cases h' : x.wd = y.wd <;> simp [h, h'] : (y.kind = 2 ∨ x.wd = y.wd) ∨ (¬ y.kind = 2 ∧ ¬ x.wd = y.wd)) with hkw | ⟨hk2, hwd⟩
  rotate_left
  · have hsb := H5.out (by rw [HKK.out]; simp [hk2]) (by simp [hwd])
    subst hsb
    have hk2' : (y.kind != 2) = true := by simpa using hk2
    have hwd' : (x.wd != y.wd) = true := by simpa using hwd
    clear hk2 hwd
    go_enter Try.func55, Try.ntmps55
    go_wp2_with (first | (go_at_call 75; refine (HSG.out _ (HX.out.by hW) (HY.out.by hW)).mono ?_; rintro e w1 ⟨rfl, hb⟩; replace k0 := Blk.by hb k0; replace k1 := Blk.by hb k1; replace k2_ := Blk.by hb k2_; replace hW := below_on hb hW; clear hb e0 e1 e2; have e0 := k0.cell; have e1 := k1.cell; have e2 := k2_.cell; have l0 := k0.lt; have l1 := k1.lt; have l2 := k2_.lt) | (go_at_call 56; refine (HPA.out _ (HX.out.by hW) (HY.out.by hW)).mono ?_; rintro e w1 ⟨rfl, hb⟩; replace k0 := Blk.by hb k0; replace k1 := Blk.by hb k1; replace k2_ := Blk.by hb k2_; replace hW := below_on hb hW; clear hb e0 e1 e2; have e0 := k0.cell; have e1 := k1.cell; have e2 := k2_.cell; have l0 := k0.lt; have l1 := k1.lt; have l2 := k2_.lt) | (go_at_call_of 39 (Value.slice a n1 c); refine (HSX.out _ (HX.out.by hW)).mono ?_; rintro e w2 ⟨rfl, hb⟩; replace k0 := Blk.by hb k0; replace k1 := Blk.by hb k1; replace k2_ := Blk.by hb k2_; replace hW := below_on hb hW; clear hb e0 e1 e2; have e0 := k0.cell; have e1 := k1.cell; have e2 := k2_.cell; have l0 := k0.lt; have l1 := k1.lt; have l2 := k2_.lt) | (go_at_call 39; refine (HSY.out _ (HY.out.by hW)).mono ?_; rintro e w3 ⟨rfl, hb⟩; replace k0 := Blk.by hb k0; replace k1 := Blk.by hb k1; replace k2_ := Blk.by hb k2_; replace hW := below_on hb hW; clear hb e0 e1 e2; have e0 := k0.cell; have e1 := k1.cell; have e2 := k2_.cell; have l0 := k0.lt; have l1 := k1.lt; have l2 := k2_.lt) | (go_at_call_of 63 (Value.slice a n1 c); refine (HCX.out _ (HX.out.by hW)).mono ?_; rintro e w4 ⟨rfl, hb⟩; replace k0 := Blk.by hb k0; replace k1 := Blk.by hb k1; replace k2_ := Blk.by hb k2_; replace hW := below_on hb hW; clear hb e0 e1 e2; have e0 := k0.cell; have e1 := k1.cell; have e2 := k2_.cell; have l0 := k0.lt; have l1 := k1.lt; have l2 := k2_.lt) | (go_at_call 63; refine (HCY.out _ (HY.out.by hW)).mono ?_; rintro e w5 ⟨rfl, hb⟩; replace k0 := Blk.by hb k0; replace k1 := Blk.by hb k1; replace k2_ := Blk.by hb k2_; replace hW := below_on hb hW; clear hb e0 e1 e2; have e0 := k0.cell; have e1 := k1.cell; have e2 := k2_.cell; have l0 := k0.lt; have l1 := k1.lt; have l2 := k2_.lt))
    rw [HPO2.out]
    exact ⟨0, rfl, (fun h => by cases h), (by first | exact hW | exact below_al hW _)⟩
  have HKW := Lib.hid (show x.kind = 2 ∨ x.wd = y.wd by rw [HKK.out]; exact hkw)
  have hkw' : ((y.kind != 2) = false) ∨ ((y.kind != 2) = true ∧ (x.wd != y.wd) = false) := by
    by_cases h : y.kind = 2
    · left; simp [h]
    · right; simp [h] at hkw; simp [h, hkw]
  clear hkw
  cases pb with
  | true =>
    have hsb := H1.out rfl
    subst hsb
    rcases hkw' with hk2 | ⟨hk2, hwd⟩
    all_goals
      go_enter Try.func55, Try.ntmps55
      go_wp2_with (first | (go_at_call 75; refine (HSG.out _ (HX.out.by hW) (HY.out.by hW)).mono ?_; rintro e w1 ⟨rfl, hb⟩; replace k0 := Blk.by hb k0; replace k1 := Blk.by hb k1; replace k2_ := Blk.by hb k2_; replace hW := below_on hb hW; clear hb e0 e1 e2; have e0 := k0.cell; have e1 := k1.cell; have e2 := k2_.cell; have l0 := k0.lt; have l1 := k1.lt; have l2 := k2_.lt) | (go_at_call 56; refine (HPA.out _ (HX.out.by hW) (HY.out.by hW)).mono ?_; rintro e w1 ⟨rfl, hb⟩; replace k0 := Blk.by hb k0; replace k1 := Blk.by hb k1; replace k2_ := Blk.by hb k2_; replace hW := below_on hb hW; clear hb e0 e1 e2; have e0 := k0.cell; have e1 := k1.cell; have e2 := k2_.cell; have l0 := k0.lt; have l1 := k1.lt; have l2 := k2_.lt) | (go_at_call_of 39 (Value.slice a n1 c); refine (HSX.out _ (HX.out.by hW)).mono ?_; rintro e w2 ⟨rfl, hb⟩; replace k0 := Blk.by hb k0; replace k1 := Blk.by hb k1; replace k2_ := Blk.by hb k2_; replace hW := below_on hb hW; clear hb e0 e1 e2; have e0 := k0.cell; have e1 := k1.cell; have e2 := k2_.cell; have l0 := k0.lt; have l1 := k1.lt; have l2 := k2_.lt) | (go_at_call 39; refine (HSY.out _ (HY.out.by hW)).mono ?_; rintro e w3 ⟨rfl, hb⟩; replace k0 := Blk.by hb k0; replace k1 := Blk.by hb k1; replace k2_ := Blk.by hb k2_; replace hW := below_on hb hW; clear hb e0 e1 e2; have e0 := k0.cell; have e1 := k1.cell; have e2 := k2_.cell; have l0 := k0.lt; have l1 := k1.lt; have l2 := k2_.lt) | (go_at_call_of 63 (Value.slice a n1 c); refine (HCX.out _ (HX.out.by hW)).mono ?_; rintro e w4 ⟨rfl, hb⟩; replace k0 := Blk.by hb k0; replace k1 := Blk.by hb k1; replace k2_ := Blk.by hb k2_; replace hW := below_on hb hW; clear hb e0 e1 e2; have e0 := k0.cell; have e1 := k1.cell; have e2 := k2_.cell; have l0 := k0.lt; have l1 := k1.lt; have l2 := k2_.lt) | (go_at_call 63; refine (HCY.out _ (HY.out.by hW)).mono ?_; rintro e w5 ⟨rfl, hb⟩; replace k0 := Blk.by hb k0; replace k1 := Blk.by hb k1; replace k2_ := Blk.by hb k2_; replace hW := below_on hb hW; clear hb e0 e1 e2; have e0 := k0.cell; have e1 := k1.cell; have e2 := k2_.cell; have l0 := k0.lt; have l1 := k1.lt; have l2 := k2_.lt))
      rw [HPO2.out]
      exact ⟨0, rfl, (fun h => by cases h), (by first | exact hW | exact below_al hW _)⟩
  | false =>
  cases shx with
  | true =>
    have hsb := H2.out rfl
    subst hsb
    rcases hkw' with hk2 | ⟨hk2, hwd⟩
    all_goals
      go_enter Try.func55, Try.ntmps55
      go_wp2_with (first | (go_at_call 75; refine (HSG.out _ (HX.out.by hW) (HY.out.by hW)).mono ?_; rintro e w1 ⟨rfl, hb⟩; replace k0 := Blk.by hb k0; replace k1 := Blk.by hb k1; replace k2_ := Blk.by hb k2_; replace hW := below_on hb hW; clear hb e0 e1 e2; have e0 := k0.cell; have e1 := k1.cell; have e2 := k2_.cell; have l0 := k0.lt; have l1 := k1.lt; have l2 := k2_.lt) | (go_at_call 56; refine (HPA.out _ (HX.out.by hW) (HY.out.by hW)).mono ?_; rintro e w1 ⟨rfl, hb⟩; replace k0 := Blk.by hb k0; replace k1 := Blk.by hb k1; replace k2_ := Blk.by hb k2_; replace hW := below_on hb hW; clear hb e0 e1 e2; have e0 := k0.cell; have e1 := k1.cell; have e2 := k2_.cell; have l0 := k0.lt; have l1 := k1.lt; have l2 := k2_.lt) | (go_at_call_of 39 (Value.slice a n1 c); refine (HSX.out _ (HX.out.by hW)).mono ?_; rintro e w2 ⟨rfl, hb⟩; replace k0 := Blk.by hb k0; replace k1 := Blk.by hb k1; replace k2_ := Blk.by hb k2_; replace hW := below_on hb hW; clear hb e0 e1 e2; have e0 := k0.cell; have e1 := k1.cell; have e2 := k2_.cell; have l0 := k0.lt; have l1 := k1.lt; have l2 := k2_.lt) | (go_at_call 39; refine (HSY.out _ (HY.out.by hW)).mono ?_; rintro e w3 ⟨rfl, hb⟩; replace k0 := Blk.by hb k0; replace k1 := Blk.by hb k1; replace k2_ := Blk.by hb k2_; replace hW := below_on hb hW; clear hb e0 e1 e2; have e0 := k0.cell; have e1 := k1.cell; have e2 := k2_.cell; have l0 := k0.lt; have l1 := k1.lt; have l2 := k2_.lt) | (go_at_call_of 63 (Value.slice a n1 c); refine (HCX.out _ (HX.out.by hW)).mono ?_; rintro e w4 ⟨rfl, hb⟩; replace k0 := Blk.by hb k0; replace k1 := Blk.by hb k1; replace k2_ := Blk.by hb k2_; replace hW := below_on hb hW; clear hb e0 e1 e2; have e0 := k0.cell; have e1 := k1.cell; have e2 := k2_.cell; have l0 := k0.lt; have l1 := k1.lt; have l2 := k2_.lt) | (go_at_call 63; refine (HCY.out _ (HY.out.by hW)).mono ?_; rintro e w5 ⟨rfl, hb⟩; replace k0 := Blk.by hb k0; replace k1 := Blk.by hb k1; replace k2_ := Blk.by hb k2_; replace hW := below_on hb hW; clear hb e0 e1 e2; have e0 := k0.cell; have e1 := k1.cell; have e2 := k2_.cell; have l0 := k0.lt; have l1 := k1.lt; have l2 := k2_.lt))
      rw [HPO2.out]
      exact ⟨0, rfl, (fun h => by cases h), (by first | exact hW | exact below_al hW _)⟩
  | false =>
  cases shy with
  | true =>
    have hsb := H3.out rfl
    subst hsb
    rcases hkw' with hk2 | ⟨hk2, hwd⟩
    all_goals
      go_enter Try.func55, Try.ntmps55
      go_wp2_with (first | (go_at_call 75; refine (HSG.out _ (HX.out.by hW) (HY.out.by hW)).mono ?_; rintro e w1 ⟨rfl, hb⟩; replace k0 := Blk.by hb k0; replace k1 := Blk.by hb k1; replace k2_ := Blk.by hb k2_; replace hW := below_on hb hW; clear hb e0 e1 e2; have e0 := k0.cell; have e1 := k1.cell; have e2 := k2_.cell; have l0 := k0.lt; have l1 := k1.lt; have l2 := k2_.lt) | (go_at_call 56; refine (HPA.out _ (HX.out.by hW) (HY.out.by hW)).mono ?_; rintro e w1 ⟨rfl, hb⟩; replace k0 := Blk.by hb k0; replace k1 := Blk.by hb k1; replace k2_ := Blk.by hb k2_; replace hW := below_on hb hW; clear hb e0 e1 e2; have e0 := k0.cell; have e1 := k1.cell; have e2 := k2_.cell; have l0 := k0.lt; have l1 := k1.lt; have l2 := k2_.lt) | (go_at_call_of 39 (Value.slice a n1 c); refine (HSX.out _ (HX.out.by hW)).mono ?_; rintro e w2 ⟨rfl, hb⟩; replace k0 := Blk.by hb k0; replace k1 := Blk.by hb k1; replace k2_ := Blk.by hb k2_; replace hW := below_on hb hW; clear hb e0 e1 e2; have e0 := k0.cell; have e1 := k1.cell; have e2 := k2_.cell; have l0 := k0.lt; have l1 := k1.lt; have l2 := k2_.lt) | (go_at_call 39; refine (HSY.out _ (HY.out.by hW)).mono ?_; rintro e w3 ⟨rfl, hb⟩; replace k0 := Blk.by hb k0; replace k1 := Blk.by hb k1; replace k2_ := Blk.by hb k2_; replace hW := below_on hb hW; clear hb e0 e1 e2; have e0 := k0.cell; have e1 := k1.cell; have e2 := k2_.cell; have l0 := k0.lt; have l1 := k1.lt; have l2 := k2_.lt) | (go_at_call_of 63 (Value.slice a n1 c); refine (HCX.out _ (HX.out.by hW)).mono ?_; rintro e w4 ⟨rfl, hb⟩; replace k0 := Blk.by hb k0; replace k1 := Blk.by hb k1; replace k2_ := Blk.by hb k2_; replace hW := below_on hb hW; clear hb e0 e1 e2; have e0 := k0.cell; have e1 := k1.cell; have e2 := k2_.cell; have l0 := k0.lt; have l1 := k1.lt; have l2 := k2_.lt) | (go_at_call 63; refine (HCY.out _ (HY.out.by hW)).mono ?_; rintro e w5 ⟨rfl, hb⟩; replace k0 := Blk.by hb k0; replace k1 := Blk.by hb k1; replace k2_ := Blk.by hb k2_; replace hW := below_on hb hW; clear hb e0 e1 e2; have e0 := k0.cell; have e1 := k1.cell; have e2 := k2_.cell; have l0 := k0.lt; have l1 := k1.lt; have l2 := k2_.lt))
      rw [HPO2.out]
      exact ⟨0, rfl, (fun h => by cases h), (by first | exact hW | exact below_al hW _)⟩
  | false =>
  have PRT := Lib.hid (HALL.out rfl rfl rfl rfl HKW.out)
  rcases (by omega : ((pn : Nat) : Int) = r ∨ (¬ ((pn : Nat) : Int) = r ∧ ((pn : Nat) : Int) = s) ∨ (¬ ((pn : Nat) : Int) = r ∧ ¬ ((pn : Nat) : Int) = s)) with hp | hp | hp <;> rcases (by omega : ((qn : Nat) : Int) = r ∨ (¬ ((qn : Nat) : Int) = r ∧ ((qn : Nat) : Int) = s) ∨ (¬ ((qn : Nat) : Int) = r ∧ ¬ ((qn : Nat) : Int) = s)) with hq | hq | hq
  · -- p r q r
    have p1 : (((pn : Nat) : Int) == r) = true := by simpa using hp
    have p3 : (((pn : Nat) : Int) != r) = false := by simp [hp]
    have q1 : (((qn : Nat) : Int) == r) = true := by simpa using hq
    have hsb := H6.out (HONEB.out (.inl hp) (.inl hq))
    subst hsb
    clear hp hq
    rcases hkw' with hk2 | ⟨hk2, hwd⟩
    all_goals
      go_enter Try.func55, Try.ntmps55
      go_wp2_with (first | (go_at_call 75; refine (HSG.out _ (HX.out.by hW) (HY.out.by hW)).mono ?_; rintro e w1 ⟨rfl, hb⟩; replace k0 := Blk.by hb k0; replace k1 := Blk.by hb k1; replace k2_ := Blk.by hb k2_; replace hW := below_on hb hW; clear hb e0 e1 e2; have e0 := k0.cell; have e1 := k1.cell; have e2 := k2_.cell; have l0 := k0.lt; have l1 := k1.lt; have l2 := k2_.lt) | (go_at_call 56; refine (HPA.out _ (HX.out.by hW) (HY.out.by hW)).mono ?_; rintro e w1 ⟨rfl, hb⟩; replace k0 := Blk.by hb k0; replace k1 := Blk.by hb k1; replace k2_ := Blk.by hb k2_; replace hW := below_on hb hW; clear hb e0 e1 e2; have e0 := k0.cell; have e1 := k1.cell; have e2 := k2_.cell; have l0 := k0.lt; have l1 := k1.lt; have l2 := k2_.lt) | (go_at_call_of 39 (Value.slice a n1 c); refine (HSX.out _ (HX.out.by hW)).mono ?_; rintro e w2 ⟨rfl, hb⟩; replace k0 := Blk.by hb k0; replace k1 := Blk.by hb k1; replace k2_ := Blk.by hb k2_; replace hW := below_on hb hW; clear hb e0 e1 e2; have e0 := k0.cell; have e1 := k1.cell; have e2 := k2_.cell; have l0 := k0.lt; have l1 := k1.lt; have l2 := k2_.lt) | (go_at_call 39; refine (HSY.out _ (HY.out.by hW)).mono ?_; rintro e w3 ⟨rfl, hb⟩; replace k0 := Blk.by hb k0; replace k1 := Blk.by hb k1; replace k2_ := Blk.by hb k2_; replace hW := below_on hb hW; clear hb e0 e1 e2; have e0 := k0.cell; have e1 := k1.cell; have e2 := k2_.cell; have l0 := k0.lt; have l1 := k1.lt; have l2 := k2_.lt) | (go_at_call_of 63 (Value.slice a n1 c); refine (HCX.out _ (HX.out.by hW)).mono ?_; rintro e w4 ⟨rfl, hb⟩; replace k0 := Blk.by hb k0; replace k1 := Blk.by hb k1; replace k2_ := Blk.by hb k2_; replace hW := below_on hb hW; clear hb e0 e1 e2; have e0 := k0.cell; have e1 := k1.cell; have e2 := k2_.cell; have l0 := k0.lt; have l1 := k1.lt; have l2 := k2_.lt) | (go_at_call 63; refine (HCY.out _ (HY.out.by hW)).mono ?_; rintro e w5 ⟨rfl, hb⟩; replace k0 := Blk.by hb k0; replace k1 := Blk.by hb k1; replace k2_ := Blk.by hb k2_; replace hW := below_on hb hW; clear hb e0 e1 e2; have e0 := k0.cell; have e1 := k1.cell; have e2 := k2_.cell; have l0 := k0.lt; have l1 := k1.lt; have l2 := k2_.lt))
      rw [HPO2.out]
      exact ⟨0, rfl, (fun h => by cases h), (by first | exact hW | exact below_al hW _)⟩
  · -- p r q s
    have p1 : (((pn : Nat) : Int) == r) = true := by simpa using hp
    have p3 : (((pn : Nat) : Int) != r) = false := by simp [hp]
    have q1 : (((qn : Nat) : Int) == r) = false := by simpa using hq.1
    have q2 : (((qn : Nat) : Int) == s) = true := by simpa using hq.2
    have hsb := H6.out (HONEB.out (.inl hp) (.inr hq.2))
    subst hsb
    clear hp hq
    rcases hkw' with hk2 | ⟨hk2, hwd⟩
    all_goals
      go_enter Try.func55, Try.ntmps55
      go_wp2_with (first | (go_at_call 75; refine (HSG.out _ (HX.out.by hW) (HY.out.by hW)).mono ?_; rintro e w1 ⟨rfl, hb⟩; replace k0 := Blk.by hb k0; replace k1 := Blk.by hb k1; replace k2_ := Blk.by hb k2_; replace hW := below_on hb hW; clear hb e0 e1 e2; have e0 := k0.cell; have e1 := k1.cell; have e2 := k2_.cell; have l0 := k0.lt; have l1 := k1.lt; have l2 := k2_.lt) | (go_at_call 56; refine (HPA.out _ (HX.out.by hW) (HY.out.by hW)).mono ?_; rintro e w1 ⟨rfl, hb⟩; replace k0 := Blk.by hb k0; replace k1 := Blk.by hb k1; replace k2_ := Blk.by hb k2_; replace hW := below_on hb hW; clear hb e0 e1 e2; have e0 := k0.cell; have e1 := k1.cell; have e2 := k2_.cell; have l0 := k0.lt; have l1 := k1.lt; have l2 := k2_.lt) | (go_at_call_of 39 (Value.slice a n1 c); refine (HSX.out _ (HX.out.by hW)).mono ?_; rintro e w2 ⟨rfl, hb⟩; replace k0 := Blk.by hb k0; replace k1 := Blk.by hb k1; replace k2_ := Blk.by hb k2_; replace hW := below_on hb hW; clear hb e0 e1 e2; have e0 := k0.cell; have e1 := k1.cell; have e2 := k2_.cell; have l0 := k0.lt; have l1 := k1.lt; have l2 := k2_.lt) | (go_at_call 39; refine (HSY.out _ (HY.out.by hW)).mono ?_; rintro e w3 ⟨rfl, hb⟩; replace k0 := Blk.by hb k0; replace k1 := Blk.by hb k1; replace k2_ := Blk.by hb k2_; replace hW := below_on hb hW; clear hb e0 e1 e2; have e0 := k0.cell; have e1 := k1.cell; have e2 := k2_.cell; have l0 := k0.lt; have l1 := k1.lt; have l2 := k2_.lt) | (go_at_call_of 63 (Value.slice a n1 c); refine (HCX.out _ (HX.out.by hW)).mono ?_; rintro e w4 ⟨rfl, hb⟩; replace k0 := Blk.by hb k0; replace k1 := Blk.by hb k1; replace k2_ := Blk.by hb k2_; replace hW := below_on hb hW; clear hb e0 e1 e2; have e0 := k0.cell; have e1 := k1.cell; have e2 := k2_.cell; have l0 := k0.lt; have l1 := k1.lt; have l2 := k2_.lt) | (go_at_call 63; refine (HCY.out _ (HY.out.by hW)).mono ?_; rintro e w5 ⟨rfl, hb⟩; replace k0 := Blk.by hb k0; replace k1 := Blk.by hb k1; replace k2_ := Blk.by hb k2_; replace hW := below_on hb hW; clear hb e0 e1 e2; have e0 := k0.cell; have e1 := k1.cell; have e2 := k2_.cell; have l0 := k0.lt; have l1 := k1.lt; have l2 := k2_.lt))
      rw [HPO2.out]
      exact ⟨0, rfl, (fun h => by cases h), (by first | exact hW | exact below_al hW _)⟩
  · -- p r q n
    have p1 : (((pn : Nat) : Int) == r) = true := by simpa using hp
    have p3 : (((pn : Nat) : Int) != r) = false := by simp [hp]
    have q1 : (((qn : Nat) : Int) == r) = false := by simpa using hq.1
    have q2 : (((qn : Nat) : Int) == s) = false := by simpa using hq.2
    have q3 : (((qn : Nat) : Int) != r) = true := by simpa using hq.1
    have q4 : (((qn : Nat) : Int) != s) = true := by simpa using hq.2
    obtain ⟨ho, hsn⟩ := HONEP.out (.inl hp) ((fun h => h.elim hq.1 hq.2))
    have hsb : sb = (decide (degN n.ds ((pn : Nat) : Int) = 2) && !portB n.ps ((pn : Nat) : Int)) := by rw [H7.out PRT.out ho, hsn]; exact H9.out _
    have HSN := Lib.hid hsn
    obtain ⟨bu, ou, hau, cz⟩ := HU.out.cells.2 pn _ HDP.out
    subst hau
    have lU := lt_of_cell cz
    dsimp only at lU
    generalize degN n.ds ((pn : Nat) : Int) = dg at *
    have HPB := Lib.hid (fun sv B w h hc => HCF.out sv ((pn : Nat) : Int) B w h hc)
    generalize portB n.ps ((pn : Nat) : Int) = po at *
    have HSB := Lib.hid hsb
    have j1 : (0 : Int) ≤ ((pn : Nat) : Int) := by omega
    have j2 : ((pn : Nat) : Int) < (m : Int) := by omega
    clear hp hq ho hsn hsb
    rcases hkw' with hk2 | ⟨hk2, hwd⟩
    all_goals
      go_enter Try.func55, Try.ntmps55
      go_wp2_with (first | (go_at_call 75; refine (HSG.out _ (HX.out.by hW) (HY.out.by hW)).mono ?_; rintro e w1 ⟨rfl, hb⟩; replace k0 := Blk.by hb k0; replace k1 := Blk.by hb k1; replace k2_ := Blk.by hb k2_; replace hW := below_on hb hW; clear hb e0 e1 e2; have e0 := k0.cell; have e1 := k1.cell; have e2 := k2_.cell; have l0 := k0.lt; have l1 := k1.lt; have l2 := k2_.lt) | (go_at_call 56; refine (HPA.out _ (HX.out.by hW) (HY.out.by hW)).mono ?_; rintro e w1 ⟨rfl, hb⟩; replace k0 := Blk.by hb k0; replace k1 := Blk.by hb k1; replace k2_ := Blk.by hb k2_; replace hW := below_on hb hW; clear hb e0 e1 e2; have e0 := k0.cell; have e1 := k1.cell; have e2 := k2_.cell; have l0 := k0.lt; have l1 := k1.lt; have l2 := k2_.lt) | (go_at_call_of 39 (Value.slice a n1 c); refine (HSX.out _ (HX.out.by hW)).mono ?_; rintro e w2 ⟨rfl, hb⟩; replace k0 := Blk.by hb k0; replace k1 := Blk.by hb k1; replace k2_ := Blk.by hb k2_; replace hW := below_on hb hW; clear hb e0 e1 e2; have e0 := k0.cell; have e1 := k1.cell; have e2 := k2_.cell; have l0 := k0.lt; have l1 := k1.lt; have l2 := k2_.lt) | (go_at_call 39; refine (HSY.out _ (HY.out.by hW)).mono ?_; rintro e w3 ⟨rfl, hb⟩; replace k0 := Blk.by hb k0; replace k1 := Blk.by hb k1; replace k2_ := Blk.by hb k2_; replace hW := below_on hb hW; clear hb e0 e1 e2; have e0 := k0.cell; have e1 := k1.cell; have e2 := k2_.cell; have l0 := k0.lt; have l1 := k1.lt; have l2 := k2_.lt) | (go_at_call_of 63 (Value.slice a n1 c); refine (HCX.out _ (HX.out.by hW)).mono ?_; rintro e w4 ⟨rfl, hb⟩; replace k0 := Blk.by hb k0; replace k1 := Blk.by hb k1; replace k2_ := Blk.by hb k2_; replace hW := below_on hb hW; clear hb e0 e1 e2; have e0 := k0.cell; have e1 := k1.cell; have e2 := k2_.cell; have l0 := k0.lt; have l1 := k1.lt; have l2 := k2_.lt) | (go_at_call 63; refine (HCY.out _ (HY.out.by hW)).mono ?_; rintro e w5 ⟨rfl, hb⟩; replace k0 := Blk.by hb k0; replace k1 := Blk.by hb k1; replace k2_ := Blk.by hb k2_; replace hW := below_on hb hW; clear hb e0 e1 e2; have e0 := k0.cell; have e1 := k1.cell; have e2 := k2_.cell; have l0 := k0.lt; have l1 := k1.lt; have l2 := k2_.lt))
      have hWx := below_al hW (.cells #[.int .i64 ((pn : Nat) : Int)] 2)
      have k3 : Blk (w5.alloc (.cells #[.int .i64 ((pn : Nat) : Int)] 2)) w5.heap.size #[.int .i64 ((pn : Nat) : Int)] 2 := Blk.new _ rfl
      have k0' := k0.past (.cells #[.int .i64 ((pn : Nat) : Int)] 2)
      have cu' := cell_by' hWx cz
      by_cases hd : dg = 2
      · have hd' : ((dg : Int) == 2) = true := by simp [hd]
        have HSB' := Lib.hid (show sb = !po by rw [HSB.out]; simp [hd])
        clear hd
        go_region_held3 (fun w' => (Blk w' w.heap.size #[.int .i64 n.nets, .slice an n.ds.length cn, .slice an' n.ps.length cn'] 27 ∧ ∀ o, w'.cell? ⟨w.heap.size, o, none⟩ = (#[.int .i64 n.nets, .slice an n.ds.length cn, .slice an' n.ps.length cn'] : Array Value)[o]?) ∧ (Blk w' w5.heap.size #[.int .i64 ((pn : Nat) : Int)] 2 ∧ ∀ o, w'.cell? ⟨w5.heap.size, o, none⟩ = (#[.int .i64 ((pn : Nat) : Int)] : Array Value)[o]?) ∧ (w'.cell? ⟨bu, ou + pn, none⟩ = some (.int .i64 (dg : Nat))) ∧ Below w.heap.size w w')
          (first | exact ⟨k0'.both, k3.both, cu', hWx.drew⟩ | exact ⟨(Blk.by hb6 k0').both, (Blk.by hb6 k3).both, cell_by' hb6 cu', below_on hb6 hWx.drew⟩)
          (first | (go_at_call 76; refine (HPB.out _ _ _ (HPS.out.by hWx.drew) (by rw [Blk.cell k3.drew]; rfl)).mono ?_; rintro e w6 ⟨rfl, hb6⟩))
        go_wp2
        rw [HPO2.out]
        exact ⟨((pn : Nat) : Int), by rw [HSB'.out]; rfl, fun _ => HSN.out.symm, below_on hb6 hWx.drew⟩
      · have hd' : ((dg : Int) == 2) = false := by rw [beq_eq_false_iff_ne]; omega
        have HSB' := Lib.hid (show sb = false by rw [HSB.out]; simp [hd])
        have e3 := k3.cell
        clear hd
        go_quiet (fail)
        go_wp2
        rw [HPO2.out]
        exact ⟨((pn : Nat) : Int), by rw [HSB'.out]; rfl, fun _ => HSN.out.symm, below_drewN hWx _⟩
  · -- p s q r
    have p1 : (((pn : Nat) : Int) == r) = false := by simpa using hp.1
    have p2 : (((pn : Nat) : Int) == s) = true := by simpa using hp.2
    have p3 : (((pn : Nat) : Int) != r) = true := by simpa using hp.1
    have p4 : (((pn : Nat) : Int) != s) = false := by simp [hp.2]
    have q1 : (((qn : Nat) : Int) == r) = true := by simpa using hq
    have hsb := H6.out (HONEB.out (.inr hp.2) (.inl hq))
    subst hsb
    clear hp hq
    rcases hkw' with hk2 | ⟨hk2, hwd⟩
    all_goals
      go_enter Try.func55, Try.ntmps55
      go_wp2_with (first | (go_at_call 75; refine (HSG.out _ (HX.out.by hW) (HY.out.by hW)).mono ?_; rintro e w1 ⟨rfl, hb⟩; replace k0 := Blk.by hb k0; replace k1 := Blk.by hb k1; replace k2_ := Blk.by hb k2_; replace hW := below_on hb hW; clear hb e0 e1 e2; have e0 := k0.cell; have e1 := k1.cell; have e2 := k2_.cell; have l0 := k0.lt; have l1 := k1.lt; have l2 := k2_.lt) | (go_at_call 56; refine (HPA.out _ (HX.out.by hW) (HY.out.by hW)).mono ?_; rintro e w1 ⟨rfl, hb⟩; replace k0 := Blk.by hb k0; replace k1 := Blk.by hb k1; replace k2_ := Blk.by hb k2_; replace hW := below_on hb hW; clear hb e0 e1 e2; have e0 := k0.cell; have e1 := k1.cell; have e2 := k2_.cell; have l0 := k0.lt; have l1 := k1.lt; have l2 := k2_.lt) | (go_at_call_of 39 (Value.slice a n1 c); refine (HSX.out _ (HX.out.by hW)).mono ?_; rintro e w2 ⟨rfl, hb⟩; replace k0 := Blk.by hb k0; replace k1 := Blk.by hb k1; replace k2_ := Blk.by hb k2_; replace hW := below_on hb hW; clear hb e0 e1 e2; have e0 := k0.cell; have e1 := k1.cell; have e2 := k2_.cell; have l0 := k0.lt; have l1 := k1.lt; have l2 := k2_.lt) | (go_at_call 39; refine (HSY.out _ (HY.out.by hW)).mono ?_; rintro e w3 ⟨rfl, hb⟩; replace k0 := Blk.by hb k0; replace k1 := Blk.by hb k1; replace k2_ := Blk.by hb k2_; replace hW := below_on hb hW; clear hb e0 e1 e2; have e0 := k0.cell; have e1 := k1.cell; have e2 := k2_.cell; have l0 := k0.lt; have l1 := k1.lt; have l2 := k2_.lt) | (go_at_call_of 63 (Value.slice a n1 c); refine (HCX.out _ (HX.out.by hW)).mono ?_; rintro e w4 ⟨rfl, hb⟩; replace k0 := Blk.by hb k0; replace k1 := Blk.by hb k1; replace k2_ := Blk.by hb k2_; replace hW := below_on hb hW; clear hb e0 e1 e2; have e0 := k0.cell; have e1 := k1.cell; have e2 := k2_.cell; have l0 := k0.lt; have l1 := k1.lt; have l2 := k2_.lt) | (go_at_call 63; refine (HCY.out _ (HY.out.by hW)).mono ?_; rintro e w5 ⟨rfl, hb⟩; replace k0 := Blk.by hb k0; replace k1 := Blk.by hb k1; replace k2_ := Blk.by hb k2_; replace hW := below_on hb hW; clear hb e0 e1 e2; have e0 := k0.cell; have e1 := k1.cell; have e2 := k2_.cell; have l0 := k0.lt; have l1 := k1.lt; have l2 := k2_.lt))
      rw [HPO2.out]
      exact ⟨0, rfl, (fun h => by cases h), (by first | exact hW | exact below_al hW _)⟩
  · -- p s q s
    have p1 : (((pn : Nat) : Int) == r) = false := by simpa using hp.1
    have p2 : (((pn : Nat) : Int) == s) = true := by simpa using hp.2
    have p3 : (((pn : Nat) : Int) != r) = true := by simpa using hp.1
    have p4 : (((pn : Nat) : Int) != s) = false := by simp [hp.2]
    have q1 : (((qn : Nat) : Int) == r) = false := by simpa using hq.1
    have q2 : (((qn : Nat) : Int) == s) = true := by simpa using hq.2
    have hsb := H6.out (HONEB.out (.inr hp.2) (.inr hq.2))
    subst hsb
    clear hp hq
    rcases hkw' with hk2 | ⟨hk2, hwd⟩
    all_goals
      go_enter Try.func55, Try.ntmps55
      go_wp2_with (first | (go_at_call 75; refine (HSG.out _ (HX.out.by hW) (HY.out.by hW)).mono ?_; rintro e w1 ⟨rfl, hb⟩; replace k0 := Blk.by hb k0; replace k1 := Blk.by hb k1; replace k2_ := Blk.by hb k2_; replace hW := below_on hb hW; clear hb e0 e1 e2; have e0 := k0.cell; have e1 := k1.cell; have e2 := k2_.cell; have l0 := k0.lt; have l1 := k1.lt; have l2 := k2_.lt) | (go_at_call 56; refine (HPA.out _ (HX.out.by hW) (HY.out.by hW)).mono ?_; rintro e w1 ⟨rfl, hb⟩; replace k0 := Blk.by hb k0; replace k1 := Blk.by hb k1; replace k2_ := Blk.by hb k2_; replace hW := below_on hb hW; clear hb e0 e1 e2; have e0 := k0.cell; have e1 := k1.cell; have e2 := k2_.cell; have l0 := k0.lt; have l1 := k1.lt; have l2 := k2_.lt) | (go_at_call_of 39 (Value.slice a n1 c); refine (HSX.out _ (HX.out.by hW)).mono ?_; rintro e w2 ⟨rfl, hb⟩; replace k0 := Blk.by hb k0; replace k1 := Blk.by hb k1; replace k2_ := Blk.by hb k2_; replace hW := below_on hb hW; clear hb e0 e1 e2; have e0 := k0.cell; have e1 := k1.cell; have e2 := k2_.cell; have l0 := k0.lt; have l1 := k1.lt; have l2 := k2_.lt) | (go_at_call 39; refine (HSY.out _ (HY.out.by hW)).mono ?_; rintro e w3 ⟨rfl, hb⟩; replace k0 := Blk.by hb k0; replace k1 := Blk.by hb k1; replace k2_ := Blk.by hb k2_; replace hW := below_on hb hW; clear hb e0 e1 e2; have e0 := k0.cell; have e1 := k1.cell; have e2 := k2_.cell; have l0 := k0.lt; have l1 := k1.lt; have l2 := k2_.lt) | (go_at_call_of 63 (Value.slice a n1 c); refine (HCX.out _ (HX.out.by hW)).mono ?_; rintro e w4 ⟨rfl, hb⟩; replace k0 := Blk.by hb k0; replace k1 := Blk.by hb k1; replace k2_ := Blk.by hb k2_; replace hW := below_on hb hW; clear hb e0 e1 e2; have e0 := k0.cell; have e1 := k1.cell; have e2 := k2_.cell; have l0 := k0.lt; have l1 := k1.lt; have l2 := k2_.lt) | (go_at_call 63; refine (HCY.out _ (HY.out.by hW)).mono ?_; rintro e w5 ⟨rfl, hb⟩; replace k0 := Blk.by hb k0; replace k1 := Blk.by hb k1; replace k2_ := Blk.by hb k2_; replace hW := below_on hb hW; clear hb e0 e1 e2; have e0 := k0.cell; have e1 := k1.cell; have e2 := k2_.cell; have l0 := k0.lt; have l1 := k1.lt; have l2 := k2_.lt))
      rw [HPO2.out]
      exact ⟨0, rfl, (fun h => by cases h), (by first | exact hW | exact below_al hW _)⟩
  · -- p s q n
    have p1 : (((pn : Nat) : Int) == r) = false := by simpa using hp.1
    have p2 : (((pn : Nat) : Int) == s) = true := by simpa using hp.2
    have p3 : (((pn : Nat) : Int) != r) = true := by simpa using hp.1
    have p4 : (((pn : Nat) : Int) != s) = false := by simp [hp.2]
    have q1 : (((qn : Nat) : Int) == r) = false := by simpa using hq.1
    have q2 : (((qn : Nat) : Int) == s) = false := by simpa using hq.2
    have q3 : (((qn : Nat) : Int) != r) = true := by simpa using hq.1
    have q4 : (((qn : Nat) : Int) != s) = true := by simpa using hq.2
    obtain ⟨ho, hsn⟩ := HONEP.out (.inr hp.2) ((fun h => h.elim hq.1 hq.2))
    have hsb : sb = (decide (degN n.ds ((pn : Nat) : Int) = 2) && !portB n.ps ((pn : Nat) : Int)) := by rw [H7.out PRT.out ho, hsn]; exact H9.out _
    have HSN := Lib.hid hsn
    obtain ⟨bu, ou, hau, cz⟩ := HU.out.cells.2 pn _ HDP.out
    subst hau
    have lU := lt_of_cell cz
    dsimp only at lU
    generalize degN n.ds ((pn : Nat) : Int) = dg at *
    have HPB := Lib.hid (fun sv B w h hc => HCF.out sv ((pn : Nat) : Int) B w h hc)
    generalize portB n.ps ((pn : Nat) : Int) = po at *
    have HSB := Lib.hid hsb
    have j1 : (0 : Int) ≤ ((pn : Nat) : Int) := by omega
    have j2 : ((pn : Nat) : Int) < (m : Int) := by omega
    clear hp hq ho hsn hsb
    rcases hkw' with hk2 | ⟨hk2, hwd⟩
    all_goals
      go_enter Try.func55, Try.ntmps55
      go_wp2_with (first | (go_at_call 75; refine (HSG.out _ (HX.out.by hW) (HY.out.by hW)).mono ?_; rintro e w1 ⟨rfl, hb⟩; replace k0 := Blk.by hb k0; replace k1 := Blk.by hb k1; replace k2_ := Blk.by hb k2_; replace hW := below_on hb hW; clear hb e0 e1 e2; have e0 := k0.cell; have e1 := k1.cell; have e2 := k2_.cell; have l0 := k0.lt; have l1 := k1.lt; have l2 := k2_.lt) | (go_at_call 56; refine (HPA.out _ (HX.out.by hW) (HY.out.by hW)).mono ?_; rintro e w1 ⟨rfl, hb⟩; replace k0 := Blk.by hb k0; replace k1 := Blk.by hb k1; replace k2_ := Blk.by hb k2_; replace hW := below_on hb hW; clear hb e0 e1 e2; have e0 := k0.cell; have e1 := k1.cell; have e2 := k2_.cell; have l0 := k0.lt; have l1 := k1.lt; have l2 := k2_.lt) | (go_at_call_of 39 (Value.slice a n1 c); refine (HSX.out _ (HX.out.by hW)).mono ?_; rintro e w2 ⟨rfl, hb⟩; replace k0 := Blk.by hb k0; replace k1 := Blk.by hb k1; replace k2_ := Blk.by hb k2_; replace hW := below_on hb hW; clear hb e0 e1 e2; have e0 := k0.cell; have e1 := k1.cell; have e2 := k2_.cell; have l0 := k0.lt; have l1 := k1.lt; have l2 := k2_.lt) | (go_at_call 39; refine (HSY.out _ (HY.out.by hW)).mono ?_; rintro e w3 ⟨rfl, hb⟩; replace k0 := Blk.by hb k0; replace k1 := Blk.by hb k1; replace k2_ := Blk.by hb k2_; replace hW := below_on hb hW; clear hb e0 e1 e2; have e0 := k0.cell; have e1 := k1.cell; have e2 := k2_.cell; have l0 := k0.lt; have l1 := k1.lt; have l2 := k2_.lt) | (go_at_call_of 63 (Value.slice a n1 c); refine (HCX.out _ (HX.out.by hW)).mono ?_; rintro e w4 ⟨rfl, hb⟩; replace k0 := Blk.by hb k0; replace k1 := Blk.by hb k1; replace k2_ := Blk.by hb k2_; replace hW := below_on hb hW; clear hb e0 e1 e2; have e0 := k0.cell; have e1 := k1.cell; have e2 := k2_.cell; have l0 := k0.lt; have l1 := k1.lt; have l2 := k2_.lt) | (go_at_call 63; refine (HCY.out _ (HY.out.by hW)).mono ?_; rintro e w5 ⟨rfl, hb⟩; replace k0 := Blk.by hb k0; replace k1 := Blk.by hb k1; replace k2_ := Blk.by hb k2_; replace hW := below_on hb hW; clear hb e0 e1 e2; have e0 := k0.cell; have e1 := k1.cell; have e2 := k2_.cell; have l0 := k0.lt; have l1 := k1.lt; have l2 := k2_.lt))
      have hWx := below_al hW (.cells #[.int .i64 ((pn : Nat) : Int)] 2)
      have k3 : Blk (w5.alloc (.cells #[.int .i64 ((pn : Nat) : Int)] 2)) w5.heap.size #[.int .i64 ((pn : Nat) : Int)] 2 := Blk.new _ rfl
      have k0' := k0.past (.cells #[.int .i64 ((pn : Nat) : Int)] 2)
      have cu' := cell_by' hWx cz
      by_cases hd : dg = 2
      · have hd' : ((dg : Int) == 2) = true := by simp [hd]
        have HSB' := Lib.hid (show sb = !po by rw [HSB.out]; simp [hd])
        clear hd
        go_region_held3 (fun w' => (Blk w' w.heap.size #[.int .i64 n.nets, .slice an n.ds.length cn, .slice an' n.ps.length cn'] 27 ∧ ∀ o, w'.cell? ⟨w.heap.size, o, none⟩ = (#[.int .i64 n.nets, .slice an n.ds.length cn, .slice an' n.ps.length cn'] : Array Value)[o]?) ∧ (Blk w' w5.heap.size #[.int .i64 ((pn : Nat) : Int)] 2 ∧ ∀ o, w'.cell? ⟨w5.heap.size, o, none⟩ = (#[.int .i64 ((pn : Nat) : Int)] : Array Value)[o]?) ∧ (w'.cell? ⟨bu, ou + pn, none⟩ = some (.int .i64 (dg : Nat))) ∧ Below w.heap.size w w')
          (first | exact ⟨k0'.both, k3.both, cu', hWx.drew⟩ | exact ⟨(Blk.by hb6 k0').both, (Blk.by hb6 k3).both, cell_by' hb6 cu', below_on hb6 hWx.drew⟩)
          (first | (go_at_call 76; refine (HPB.out _ _ _ (HPS.out.by hWx.drew) (by rw [Blk.cell k3.drew]; rfl)).mono ?_; rintro e w6 ⟨rfl, hb6⟩))
        go_wp2
        rw [HPO2.out]
        exact ⟨((pn : Nat) : Int), by rw [HSB'.out]; rfl, fun _ => HSN.out.symm, below_on hb6 hWx.drew⟩
      · have hd' : ((dg : Int) == 2) = false := by rw [beq_eq_false_iff_ne]; omega
        have HSB' := Lib.hid (show sb = false by rw [HSB.out]; simp [hd])
        have e3 := k3.cell
        clear hd
        go_quiet (fail)
        go_wp2
        rw [HPO2.out]
        exact ⟨((pn : Nat) : Int), by rw [HSB'.out]; rfl, fun _ => HSN.out.symm, below_drewN hWx _⟩
  · -- p n q r
    have p1 : (((pn : Nat) : Int) == r) = false := by simpa using hp.1
    have p2 : (((pn : Nat) : Int) == s) = false := by simpa using hp.2
    have p3 : (((pn : Nat) : Int) != r) = true := by simpa using hp.1
    have p4 : (((pn : Nat) : Int) != s) = true := by simpa using hp.2
    have q1 : (((qn : Nat) : Int) == r) = true := by simpa using hq
    obtain ⟨ho, hsn⟩ := HONEQ.out ((fun h => h.elim hp.1 hp.2)) (.inl hq)
    have hsb : sb = (decide (degN n.ds ((qn : Nat) : Int) = 2) && !portB n.ps ((qn : Nat) : Int)) := by rw [H7.out PRT.out ho, hsn]; exact H9.out _
    have HSN := Lib.hid hsn
    obtain ⟨bu, ou, hau, cz⟩ := HU.out.cells.2 qn _ HDQ.out
    subst hau
    have lU := lt_of_cell cz
    dsimp only at lU
    generalize degN n.ds ((qn : Nat) : Int) = dg at *
    have HPB := Lib.hid (fun sv B w h hc => HCF.out sv ((qn : Nat) : Int) B w h hc)
    generalize portB n.ps ((qn : Nat) : Int) = po at *
    have HSB := Lib.hid hsb
    have j1 : (0 : Int) ≤ ((qn : Nat) : Int) := by omega
    have j2 : ((qn : Nat) : Int) < (m : Int) := by omega
    clear hp hq ho hsn hsb
    rcases hkw' with hk2 | ⟨hk2, hwd⟩
    all_goals
      go_enter Try.func55, Try.ntmps55
      go_wp2_with (first | (go_at_call 75; refine (HSG.out _ (HX.out.by hW) (HY.out.by hW)).mono ?_; rintro e w1 ⟨rfl, hb⟩; replace k0 := Blk.by hb k0; replace k1 := Blk.by hb k1; replace k2_ := Blk.by hb k2_; replace hW := below_on hb hW; clear hb e0 e1 e2; have e0 := k0.cell; have e1 := k1.cell; have e2 := k2_.cell; have l0 := k0.lt; have l1 := k1.lt; have l2 := k2_.lt) | (go_at_call 56; refine (HPA.out _ (HX.out.by hW) (HY.out.by hW)).mono ?_; rintro e w1 ⟨rfl, hb⟩; replace k0 := Blk.by hb k0; replace k1 := Blk.by hb k1; replace k2_ := Blk.by hb k2_; replace hW := below_on hb hW; clear hb e0 e1 e2; have e0 := k0.cell; have e1 := k1.cell; have e2 := k2_.cell; have l0 := k0.lt; have l1 := k1.lt; have l2 := k2_.lt) | (go_at_call_of 39 (Value.slice a n1 c); refine (HSX.out _ (HX.out.by hW)).mono ?_; rintro e w2 ⟨rfl, hb⟩; replace k0 := Blk.by hb k0; replace k1 := Blk.by hb k1; replace k2_ := Blk.by hb k2_; replace hW := below_on hb hW; clear hb e0 e1 e2; have e0 := k0.cell; have e1 := k1.cell; have e2 := k2_.cell; have l0 := k0.lt; have l1 := k1.lt; have l2 := k2_.lt) | (go_at_call 39; refine (HSY.out _ (HY.out.by hW)).mono ?_; rintro e w3 ⟨rfl, hb⟩; replace k0 := Blk.by hb k0; replace k1 := Blk.by hb k1; replace k2_ := Blk.by hb k2_; replace hW := below_on hb hW; clear hb e0 e1 e2; have e0 := k0.cell; have e1 := k1.cell; have e2 := k2_.cell; have l0 := k0.lt; have l1 := k1.lt; have l2 := k2_.lt) | (go_at_call_of 63 (Value.slice a n1 c); refine (HCX.out _ (HX.out.by hW)).mono ?_; rintro e w4 ⟨rfl, hb⟩; replace k0 := Blk.by hb k0; replace k1 := Blk.by hb k1; replace k2_ := Blk.by hb k2_; replace hW := below_on hb hW; clear hb e0 e1 e2; have e0 := k0.cell; have e1 := k1.cell; have e2 := k2_.cell; have l0 := k0.lt; have l1 := k1.lt; have l2 := k2_.lt) | (go_at_call 63; refine (HCY.out _ (HY.out.by hW)).mono ?_; rintro e w5 ⟨rfl, hb⟩; replace k0 := Blk.by hb k0; replace k1 := Blk.by hb k1; replace k2_ := Blk.by hb k2_; replace hW := below_on hb hW; clear hb e0 e1 e2; have e0 := k0.cell; have e1 := k1.cell; have e2 := k2_.cell; have l0 := k0.lt; have l1 := k1.lt; have l2 := k2_.lt))
      have hWx := below_al hW (.cells #[.int .i64 ((qn : Nat) : Int)] 2)
      have k3 : Blk (w5.alloc (.cells #[.int .i64 ((qn : Nat) : Int)] 2)) w5.heap.size #[.int .i64 ((qn : Nat) : Int)] 2 := Blk.new _ rfl
      have k0' := k0.past (.cells #[.int .i64 ((qn : Nat) : Int)] 2)
      have cu' := cell_by' hWx cz
      by_cases hd : dg = 2
      · have hd' : ((dg : Int) == 2) = true := by simp [hd]
        have HSB' := Lib.hid (show sb = !po by rw [HSB.out]; simp [hd])
        clear hd
        go_region_held3 (fun w' => (Blk w' w.heap.size #[.int .i64 n.nets, .slice an n.ds.length cn, .slice an' n.ps.length cn'] 27 ∧ ∀ o, w'.cell? ⟨w.heap.size, o, none⟩ = (#[.int .i64 n.nets, .slice an n.ds.length cn, .slice an' n.ps.length cn'] : Array Value)[o]?) ∧ (Blk w' w5.heap.size #[.int .i64 ((qn : Nat) : Int)] 2 ∧ ∀ o, w'.cell? ⟨w5.heap.size, o, none⟩ = (#[.int .i64 ((qn : Nat) : Int)] : Array Value)[o]?) ∧ (w'.cell? ⟨bu, ou + qn, none⟩ = some (.int .i64 (dg : Nat))) ∧ Below w.heap.size w w')
          (first | exact ⟨k0'.both, k3.both, cu', hWx.drew⟩ | exact ⟨(Blk.by hb6 k0').both, (Blk.by hb6 k3).both, cell_by' hb6 cu', below_on hb6 hWx.drew⟩)
          (first | (go_at_call 76; refine (HPB.out _ _ _ (HPS.out.by hWx.drew) (by rw [Blk.cell k3.drew]; rfl)).mono ?_; rintro e w6 ⟨rfl, hb6⟩))
        go_wp2
        rw [HPO2.out]
        exact ⟨((qn : Nat) : Int), by rw [HSB'.out]; rfl, fun _ => HSN.out.symm, below_on hb6 hWx.drew⟩
      · have hd' : ((dg : Int) == 2) = false := by rw [beq_eq_false_iff_ne]; omega
        have HSB' := Lib.hid (show sb = false by rw [HSB.out]; simp [hd])
        have e3 := k3.cell
        clear hd
        go_quiet (fail)
        go_wp2
        rw [HPO2.out]
        exact ⟨((qn : Nat) : Int), by rw [HSB'.out]; rfl, fun _ => HSN.out.symm, below_drewN hWx _⟩
  · -- p n q s
    have p1 : (((pn : Nat) : Int) == r) = false := by simpa using hp.1
    have p2 : (((pn : Nat) : Int) == s) = false := by simpa using hp.2
    have p3 : (((pn : Nat) : Int) != r) = true := by simpa using hp.1
    have p4 : (((pn : Nat) : Int) != s) = true := by simpa using hp.2
    have q1 : (((qn : Nat) : Int) == r) = false := by simpa using hq.1
    have q2 : (((qn : Nat) : Int) == s) = true := by simpa using hq.2
    obtain ⟨ho, hsn⟩ := HONEQ.out ((fun h => h.elim hp.1 hp.2)) (.inr hq.2)
    have hsb : sb = (decide (degN n.ds ((qn : Nat) : Int) = 2) && !portB n.ps ((qn : Nat) : Int)) := by rw [H7.out PRT.out ho, hsn]; exact H9.out _
    have HSN := Lib.hid hsn
    obtain ⟨bu, ou, hau, cz⟩ := HU.out.cells.2 qn _ HDQ.out
    subst hau
    have lU := lt_of_cell cz
    dsimp only at lU
    generalize degN n.ds ((qn : Nat) : Int) = dg at *
    have HPB := Lib.hid (fun sv B w h hc => HCF.out sv ((qn : Nat) : Int) B w h hc)
    generalize portB n.ps ((qn : Nat) : Int) = po at *
    have HSB := Lib.hid hsb
    have j1 : (0 : Int) ≤ ((qn : Nat) : Int) := by omega
    have j2 : ((qn : Nat) : Int) < (m : Int) := by omega
    clear hp hq ho hsn hsb
    rcases hkw' with hk2 | ⟨hk2, hwd⟩
    all_goals
      go_enter Try.func55, Try.ntmps55
      go_wp2_with (first | (go_at_call 75; refine (HSG.out _ (HX.out.by hW) (HY.out.by hW)).mono ?_; rintro e w1 ⟨rfl, hb⟩; replace k0 := Blk.by hb k0; replace k1 := Blk.by hb k1; replace k2_ := Blk.by hb k2_; replace hW := below_on hb hW; clear hb e0 e1 e2; have e0 := k0.cell; have e1 := k1.cell; have e2 := k2_.cell; have l0 := k0.lt; have l1 := k1.lt; have l2 := k2_.lt) | (go_at_call 56; refine (HPA.out _ (HX.out.by hW) (HY.out.by hW)).mono ?_; rintro e w1 ⟨rfl, hb⟩; replace k0 := Blk.by hb k0; replace k1 := Blk.by hb k1; replace k2_ := Blk.by hb k2_; replace hW := below_on hb hW; clear hb e0 e1 e2; have e0 := k0.cell; have e1 := k1.cell; have e2 := k2_.cell; have l0 := k0.lt; have l1 := k1.lt; have l2 := k2_.lt) | (go_at_call_of 39 (Value.slice a n1 c); refine (HSX.out _ (HX.out.by hW)).mono ?_; rintro e w2 ⟨rfl, hb⟩; replace k0 := Blk.by hb k0; replace k1 := Blk.by hb k1; replace k2_ := Blk.by hb k2_; replace hW := below_on hb hW; clear hb e0 e1 e2; have e0 := k0.cell; have e1 := k1.cell; have e2 := k2_.cell; have l0 := k0.lt; have l1 := k1.lt; have l2 := k2_.lt) | (go_at_call 39; refine (HSY.out _ (HY.out.by hW)).mono ?_; rintro e w3 ⟨rfl, hb⟩; replace k0 := Blk.by hb k0; replace k1 := Blk.by hb k1; replace k2_ := Blk.by hb k2_; replace hW := below_on hb hW; clear hb e0 e1 e2; have e0 := k0.cell; have e1 := k1.cell; have e2 := k2_.cell; have l0 := k0.lt; have l1 := k1.lt; have l2 := k2_.lt) | (go_at_call_of 63 (Value.slice a n1 c); refine (HCX.out _ (HX.out.by hW)).mono ?_; rintro e w4 ⟨rfl, hb⟩; replace k0 := Blk.by hb k0; replace k1 := Blk.by hb k1; replace k2_ := Blk.by hb k2_; replace hW := below_on hb hW; clear hb e0 e1 e2; have e0 := k0.cell; have e1 := k1.cell; have e2 := k2_.cell; have l0 := k0.lt; have l1 := k1.lt; have l2 := k2_.lt) | (go_at_call 63; refine (HCY.out _ (HY.out.by hW)).mono ?_; rintro e w5 ⟨rfl, hb⟩; replace k0 := Blk.by hb k0; replace k1 := Blk.by hb k1; replace k2_ := Blk.by hb k2_; replace hW := below_on hb hW; clear hb e0 e1 e2; have e0 := k0.cell; have e1 := k1.cell; have e2 := k2_.cell; have l0 := k0.lt; have l1 := k1.lt; have l2 := k2_.lt))
      have hWx := below_al hW (.cells #[.int .i64 ((qn : Nat) : Int)] 2)
      have k3 : Blk (w5.alloc (.cells #[.int .i64 ((qn : Nat) : Int)] 2)) w5.heap.size #[.int .i64 ((qn : Nat) : Int)] 2 := Blk.new _ rfl
      have k0' := k0.past (.cells #[.int .i64 ((qn : Nat) : Int)] 2)
      have cu' := cell_by' hWx cz
      by_cases hd : dg = 2
      · have hd' : ((dg : Int) == 2) = true := by simp [hd]
        have HSB' := Lib.hid (show sb = !po by rw [HSB.out]; simp [hd])
        clear hd
        go_region_held3 (fun w' => (Blk w' w.heap.size #[.int .i64 n.nets, .slice an n.ds.length cn, .slice an' n.ps.length cn'] 27 ∧ ∀ o, w'.cell? ⟨w.heap.size, o, none⟩ = (#[.int .i64 n.nets, .slice an n.ds.length cn, .slice an' n.ps.length cn'] : Array Value)[o]?) ∧ (Blk w' w5.heap.size #[.int .i64 ((qn : Nat) : Int)] 2 ∧ ∀ o, w'.cell? ⟨w5.heap.size, o, none⟩ = (#[.int .i64 ((qn : Nat) : Int)] : Array Value)[o]?) ∧ (w'.cell? ⟨bu, ou + qn, none⟩ = some (.int .i64 (dg : Nat))) ∧ Below w.heap.size w w')
          (first | exact ⟨k0'.both, k3.both, cu', hWx.drew⟩ | exact ⟨(Blk.by hb6 k0').both, (Blk.by hb6 k3).both, cell_by' hb6 cu', below_on hb6 hWx.drew⟩)
          (first | (go_at_call 76; refine (HPB.out _ _ _ (HPS.out.by hWx.drew) (by rw [Blk.cell k3.drew]; rfl)).mono ?_; rintro e w6 ⟨rfl, hb6⟩))
        go_wp2
        rw [HPO2.out]
        exact ⟨((qn : Nat) : Int), by rw [HSB'.out]; rfl, fun _ => HSN.out.symm, below_on hb6 hWx.drew⟩
      · have hd' : ((dg : Int) == 2) = false := by rw [beq_eq_false_iff_ne]; omega
        have HSB' := Lib.hid (show sb = false by rw [HSB.out]; simp [hd])
        have e3 := k3.cell
        clear hd
        go_quiet (fail)
        go_wp2
        rw [HPO2.out]
        exact ⟨((qn : Nat) : Int), by rw [HSB'.out]; rfl, fun _ => HSN.out.symm, below_drewN hWx _⟩
  · -- p n q n
    have p1 : (((pn : Nat) : Int) == r) = false := by simpa using hp.1
    have p2 : (((pn : Nat) : Int) == s) = false := by simpa using hp.2
    have p3 : (((pn : Nat) : Int) != r) = true := by simpa using hp.1
    have p4 : (((pn : Nat) : Int) != s) = true := by simpa using hp.2
    have q1 : (((qn : Nat) : Int) == r) = false := by simpa using hq.1
    have q2 : (((qn : Nat) : Int) == s) = false := by simpa using hq.2
    have q3 : (((qn : Nat) : Int) != r) = true := by simpa using hq.1
    have q4 : (((qn : Nat) : Int) != s) = true := by simpa using hq.2
    have hsb := H6.out (HONEN.out ((fun h => h.elim hp.1 hp.2)) ((fun h => h.elim hq.1 hq.2)))
    subst hsb
    clear hp hq
    rcases hkw' with hk2 | ⟨hk2, hwd⟩
    all_goals
      go_enter Try.func55, Try.ntmps55
      go_wp2_with (first | (go_at_call 75; refine (HSG.out _ (HX.out.by hW) (HY.out.by hW)).mono ?_; rintro e w1 ⟨rfl, hb⟩; replace k0 := Blk.by hb k0; replace k1 := Blk.by hb k1; replace k2_ := Blk.by hb k2_; replace hW := below_on hb hW; clear hb e0 e1 e2; have e0 := k0.cell; have e1 := k1.cell; have e2 := k2_.cell; have l0 := k0.lt; have l1 := k1.lt; have l2 := k2_.lt) | (go_at_call 56; refine (HPA.out _ (HX.out.by hW) (HY.out.by hW)).mono ?_; rintro e w1 ⟨rfl, hb⟩; replace k0 := Blk.by hb k0; replace k1 := Blk.by hb k1; replace k2_ := Blk.by hb k2_; replace hW := below_on hb hW; clear hb e0 e1 e2; have e0 := k0.cell; have e1 := k1.cell; have e2 := k2_.cell; have l0 := k0.lt; have l1 := k1.lt; have l2 := k2_.lt) | (go_at_call_of 39 (Value.slice a n1 c); refine (HSX.out _ (HX.out.by hW)).mono ?_; rintro e w2 ⟨rfl, hb⟩; replace k0 := Blk.by hb k0; replace k1 := Blk.by hb k1; replace k2_ := Blk.by hb k2_; replace hW := below_on hb hW; clear hb e0 e1 e2; have e0 := k0.cell; have e1 := k1.cell; have e2 := k2_.cell; have l0 := k0.lt; have l1 := k1.lt; have l2 := k2_.lt) | (go_at_call 39; refine (HSY.out _ (HY.out.by hW)).mono ?_; rintro e w3 ⟨rfl, hb⟩; replace k0 := Blk.by hb k0; replace k1 := Blk.by hb k1; replace k2_ := Blk.by hb k2_; replace hW := below_on hb hW; clear hb e0 e1 e2; have e0 := k0.cell; have e1 := k1.cell; have e2 := k2_.cell; have l0 := k0.lt; have l1 := k1.lt; have l2 := k2_.lt) | (go_at_call_of 63 (Value.slice a n1 c); refine (HCX.out _ (HX.out.by hW)).mono ?_; rintro e w4 ⟨rfl, hb⟩; replace k0 := Blk.by hb k0; replace k1 := Blk.by hb k1; replace k2_ := Blk.by hb k2_; replace hW := below_on hb hW; clear hb e0 e1 e2; have e0 := k0.cell; have e1 := k1.cell; have e2 := k2_.cell; have l0 := k0.lt; have l1 := k1.lt; have l2 := k2_.lt) | (go_at_call 63; refine (HCY.out _ (HY.out.by hW)).mono ?_; rintro e w5 ⟨rfl, hb⟩; replace k0 := Blk.by hb k0; replace k1 := Blk.by hb k1; replace k2_ := Blk.by hb k2_; replace hW := below_on hb hW; clear hb e0 e1 e2; have e0 := k0.cell; have e1 := k1.cell; have e2 := k2_.cell; have l0 := k0.lt; have l1 := k1.lt; have l2 := k2_.lt))
      rw [HPO2.out]
      exact ⟨0, rfl, (fun h => by cases h), (by first | exact hW | exact below_al hW _)⟩
end Go.Proofs.Ytdljbmfmmlcmmaa

/- l28Series and serial at devices of a valid netlist. -/
namespace Go.Proofs.Ytdljbmfmmlcmmaa
open Go.RowKit
set_option linter.unusedVariables false
set_option linter.unusedSimpArgs false

set_option maxRecDepth 100000 in
set_option maxHeartbeats 1000000 in
theorem serial_kind (n : Nl) (x y : Dv) (v su sx sy : Value) (w : World) (hv : NlV w v n) (h : IntSl w sx x.pins) (h' : IntSl w sy y.pins) (hk : x.kind ≠ y.kind) :
    Calls Try.prog 55 #[v, su, .agg #[.int .i64 x.kind, sx, .int .i64 x.wd, .int .i64 x.len], .agg #[.int .i64 y.kind, sy, .int .i64 y.wd, .int .i64 y.len]] w (SerPost n x y w) := by
  have hsb := serB_pre (n := n) (preB_kind hk)
  have HPO2 := Lib.hid (show SerPost n x y w = fun e w' => ∃ r1 : Int, e = .returned (.tuple #[.int .i64 r1, .bool (serB n x y)]) ∧ (serB n x y = true → r1 = serN x y) ∧ Below w.heap.size w w' from rfl)
  rw [hsb] at HPO2
  obtain ⟨an, cn, an', cn', rfl⟩ := hv.sized
  obtain ⟨a, c, rfl⟩ := h.len
  obtain ⟨a', c', rfl⟩ := h'.len
  generalize SerPost n x y w = PP at *
  have hk' : (x.kind != y.kind) = true := by simpa using hk
  clear hv h h' hk hsb
  go_enter Try.func55, Try.ntmps55
  go_wp2
  rw [HPO2.out]
  exact ⟨0, rfl, (fun h => by cases h), (by ((repeat (first | (with_reducible exact Below.refl _ _) | (with_reducible refine below_drewN ?_ _) | (with_reducible refine Below.drew ?_) | (with_reducible refine below_al ?_ _) | (with_reducible refine below_on (by assumption) ?_) | ((with_reducible refine Below.setCell ?_ ?_ _); rotate_left; focus (first | omega | (simp; done) | (simp; omega))) | (with_reducible assumption))); done))⟩

theorem cur_in {nets : Int} {x : Dv} (h : dvB nets x = true) : (0 ≤ curP x.pins ∧ curP x.pins < nets) ∧ (0 ≤ curQ x.pins ∧ curQ x.pins < nets) := by
  obtain ⟨_, _, hin⟩ := dvB_pins h
  rcases shp_of h with ⟨_, p, q, hp⟩ | ⟨_, g, p, q, hp⟩
  · rw [hp] at hin ⊢
    exact ⟨hin p (by simp), hin q (by simp)⟩
  · rw [hp] at hin ⊢
    exact ⟨hin p (by simp), hin q (by simp)⟩
theorem serial_any (n : Nl) (m : Nat) (x y : Dv) (v su sx sy : Value) (w : World) (hn : nlB n = true) (hm : n.nets = (m : Int)) (hx : x ∈ n.ds) (hy : y ∈ n.ds) (hv : NlV w v n) (hu : IntSl w su (degs m n.ds)) (h : IntSl w sx x.pins) (h' : IntSl w sy y.pins) :
    Calls Try.prog 55 #[v, su, .agg #[.int .i64 x.kind, sx, .int .i64 x.wd, .int .i64 x.len], .agg #[.int .i64 y.kind, sy, .int .i64 y.wd, .int .i64 y.len]] w (SerPost n x y w) := by
  obtain ⟨hn24, hl, hpl, hdv, _⟩ := nlB_facts hn
  by_cases hk : x.kind = y.kind
  · obtain ⟨⟨p0, p1⟩, q0, q1⟩ := cur_in (hdv x hx)
    exact serial_same n m x y (curP x.pins).toNat (curQ x.pins).toNat su v sx sy w hv hu h h' (shp_of (hdv x hx)) (shp_of (hdv y hy)) hk (by omega) (by omega) (by omega) (by omega) (by omega) hpl
  · exact serial_kind n x y v su sx sy w hv h h' hk
end Go.Proofs.Ytdljbmfmmlcmmaa
