/- Both IsColoring. -/
import Derived.Test.YtpaiiaajbojmnaaGreatSpecNl
import Derived.Test.YtpaiiaajbojmnaaGreatImplNl
import Derived.Test.YtpaiiaajbojmnaaGreatValid0
import Derived.Test.YtpaiiaajbojmnaaGreatNls
import Derived.Test.YtpaiiaajbojmnaaGreatPairC
namespace Go.Proofs.YtpaiiaajbojmnaaGreat
open Go.RowKit
set_option linter.unusedVariables false
set_option linter.unusedSimpArgs false

/-- So many colors, all in range. -/
def colsB (zs : List Int) (n : Int) : Bool := zs.all (fun z => inB z 0 23) && decide ((zs.length : Int) = n)
def coB (x : Nl) (c : List Int × List Int) : Bool := nlB x && (colsB c.1 x.nets && colsB c.2 x.ds.length)
theorem colsB_no {zs : List Int} {k : Nat} {z : Int} (n : Int) (h : zs[k]? = some z) (hz : inB z 0 23 = false) : colsB zs n = false := by
  have : zs.all (fun z => inB z 0 23) = false := by rw [List.all_eq_false]; exact ⟨z, List.mem_of_getElem? h, by simp [hz]⟩
  simp [colsB, this]
theorem colsB_end {zs : List Int} (n : Int) (h : ∀ (j : Nat) z, j < zs.length → zs[j]? = some z → inB z 0 23 = true) : colsB zs n = decide ((zs.length : Int) = n) := by
  have : zs.all (fun z => inB z 0 23) = true := by
    rw [List.all_eq_true]; intro z hz
    obtain ⟨j, hj, e⟩ := List.mem_iff_getElem.1 hz
    exact h j z hj (by rw [List.getElem?_eq_getElem hj, e])
  simp [colsB, this]
theorem cols_any (zs : List Int) : (zs.any fun z => !inB z 0 23) = !(zs.all fun z => inB z 0 23) := by
  induction zs with
  | nil => rfl
  | cons x xs ih => simp [ih]

set_option maxRecDepth 100000 in
set_option maxHeartbeats 1000000 in
theorem l29Colors_any (zs : List Int) (n : Int) (sv : Value) (w : World) (h : IntSl w sv zs) :
    Calls Tryz.prog 15 #[sv, .int .i64 n] w fun e w' => e = .returned (.bool (colsB zs n)) ∧ w = w' := by
  have HN := Lib.hid (fun k z => @colsB_no zs k z n)
  have HE := Lib.hid (@colsB_end zs n)
  generalize colsB zs n = r at *
  have hle := h.le
  have HH := Lib.hid h
  obtain ⟨a, c, rfl⟩ := h.len
  clear h
  go_enter Tryz.func15, Tryz.ntmps15
  go_wp2
  go_loop [5] (fun i => ∃ k : Nat, k ≤ zs.length ∧ i = .int .i64 k ∧ Hid (∀ (j : Nat) z, j < k → zs[j]? = some z → inB z 0 23 = true)) (fun i => zs.length - (intOf i).toNat)
  case atStart => exact ⟨0, Nat.zero_le _, rfl, Lib.hid (by intro j z hj; omega)⟩
  case round =>
    obtain ⟨k, hk, rfl, HI⟩ := hrel
    by_cases hlt : k < zs.length
    · obtain ⟨z, hz⟩ : ∃ z, zs[k]? = some z := ⟨zs[k], List.getElem?_eq_getElem hlt⟩
      have HHS := HH.out
      rcases HHS with ⟨_, _, _, e2⟩ | ⟨b, off, cap, e1, e2, e3, e4⟩
      · rw [e2] at hlt; simp at hlt
      obtain ⟨rfl, rfl⟩ : a = some ⟨b, off, none⟩ ∧ c = cap := by simpa using e1
      have cz := e4 k z hz
      have HZ := Lib.hid hz
      have i1 : (0 : Int) ≤ (k : Int) := by omega
      have i2 : (k : Int) < (zs.length : Int) := by omega
      clear e4 hz e1
      rcases Bool.eq_false_or_eq_true (inB z 0 23) with hin | hin
      · have HIN := Lib.hid hin
        go_wp2_with (go_at_call 30; refine (l16In_any _ _ _ _).mono ?_; rintro e w' ⟨rfl, rfl⟩)
        go_round
        case rel => exact ⟨k + 1, by omega, by go_num, Lib.hid (fun j q hj hq => by
          by_cases e : j = k
          · subst e; obtain rfl : q = z := Option.some.inj (hq.symm.trans HZ.out); exact HIN.out
          · exact HI.out j q (by omega) hq)⟩
        case measure => simp [intOf]; omega
      · have hr := Lib.hid (HN.out k z HZ.out hin)
        go_wp2_with (go_at_call 30; refine (l16In_any _ _ _ _).mono ?_; rintro e w' ⟨rfl, rfl⟩)
        go_ret
        exact ⟨ret_bool hr.out.symm, rfl⟩
    · obtain rfl : k = zs.length := by omega
      have hr := Lib.hid (HE.out (fun j z hj hz => HI.out j z hj hz))
      go_wp2
      go_ret
      exact ⟨ret_bool (by rw [hr.out, Bool.eq_iff_iff]; simp), rfl⟩

set_option maxRecDepth 100000 in
theorem vcClosure_any (z : Int) (W : World) :
    Calls Tryz.prog 51 #[.int .i64 z] W fun e w' => e = .returned (.bool (!inB z 0 23)) ∧ W = w' := by
  go_enter Tryz.func51, Tryz.ntmps51
  go_wp2_with (go_at_call 33; refine (within_any _ _ _ _).mono ?_; rintro e w' ⟨rfl, rfl⟩)
  go_ret
  exact ⟨rfl, rfl⟩

set_option maxRecDepth 100000 in
set_option maxHeartbeats 1000000 in
theorem validColors_any (zs : List Int) (n : Int) (sv : Value) (w : World) (h : IntSl w sv zs) :
    Calls Tryz.prog 26 #[sv, .int .i64 n] w fun e w' => e = .returned (.bool (colsB zs n)) ∧ Below w.heap.size w w' := by
  have eg : ∀ args w, (callFunc 51 args).run Tryz.prog w = .ok (.enter 51 args) w := enters_of Tryz.func51 (by kernel_rfl) rfl
  have hcl : ∀ (W : World) (z : Int), Below w.heap.size w W → z ∈ zs → Calls Tryz.prog 51 (#[.int .i64 z] ++ #[]) W fun e w' => e = .returned (.bool (!inB z 0 23)) ∧ Below W.heap.size W w' := by
    intro W z _ _
    show Calls Tryz.prog 51 #[.int .i64 z] W _
    refine (vcClosure_any z W).mono ?_
    rintro e w' ⟨rfl, rfl⟩
    exact ⟨rfl, Below.refl _ _⟩
  have HC := Lib.hid (containsFuncI_any 51 #[] eg (fun z => !inB z 0 23) sv zs w h hcl)
  rw [cols_any] at HC
  have HD := Lib.hid (show colsB zs n = (zs.all (fun z => inB z 0 23) && decide ((zs.length : Int) = n)) from rfl)
  generalize colsB zs n = r at *
  generalize (zs.all fun z => inB z 0 23) = q at *
  have hle := h.le
  obtain ⟨a, c, rfl⟩ := h.len
  clear hcl eg h
  by_cases hn : (zs.length : Int) = n
  · have HR := Lib.hid (show r = q by rw [HD.out]; simp [hn])
    subst hn
    go_enter Tryz.func26, Tryz.ntmps26
    go_wp2_with (go_at_call 50; refine HC.out.mono ?_; rintro e w1 ⟨rfl, hb1⟩)
    go_ret
    exact ⟨ret_bool (by first | rw [HR.out] | simp [HR.out]), hb1⟩
  · have HR := Lib.hid (show r = false by rw [HD.out]; simp [hn])
    have hn' : ((zs.length : Int) == n) = false := by simpa using hn
    clear hn
    go_enter Tryz.func26, Tryz.ntmps26
    go_wp2
    go_ret
    exact ⟨ret_bool HR.out.symm, (by ((repeat (first | (with_reducible exact Below.refl _ _) | (with_reducible refine below_drewN ?_ _) | (with_reducible refine Below.drew ?_) | (with_reducible refine below_al ?_ _) | (with_reducible refine below_on (by assumption) ?_) | ((with_reducible refine Below.setCell ?_ ?_ _); rotate_left; focus (first | omega | (simp; done) | (simp; omega))) | (with_reducible assumption))); done))⟩

theorem coB_nl {x : Nl} (c : List Int × List Int) (h : nlB x = false) : coB x c = false := by simp [coB, h]
theorem coB_of {x : Nl} (c : List Int × List Int) (h : nlB x = true) : coB x c = (colsB c.1 x.nets && colsB c.2 x.ds.length) := by simp [coB, h]

set_option maxRecDepth 100000 in
set_option maxHeartbeats 2000000 in
theorem specIsColoring_any (x : Nl) (c : List Int × List Int) (v u : Value) (w : World) (h : NlV w v x) (hc : CoV w u c) (hok : ∀ p ∈ x.ps, p.ok) (hnn : Fits x.nets) :
    Calls Tryz.prog 7 #[v, u] w fun e w' => e = .returned (.bool (coB x c)) ∧ Below w.heap.size w w' := by
  have HV := Lib.hid (fun v w h => specNl_any x v w h hok hnn)
  have HN := Lib.hid h
  obtain ⟨s1, s2, rfl, hc1, hc2⟩ := hc
  have HC1 := Lib.hid hc1
  have HC2 := Lib.hid hc2
  obtain ⟨a, ca, a', ca', rfl⟩ := h.sized
  obtain ⟨b, cb, rfl⟩ := hc1.len
  obtain ⟨b', cb', rfl⟩ := hc2.len
  have HL1 := Lib.hid (fun w h => l29Colors_any c.1 x.nets (.slice b c.1.length cb) w h)
  have HL2 := Lib.hid (fun w h => l29Colors_any c.2 x.ds.length (.slice b' c.2.length cb') w h)
  cases hv : nlB x with
  | false =>
    rw [hv] at HV
    have hr := Lib.hid (coB_nl c hv)
    generalize coB x c = r at *
    clear hv h hc1 hc2 hok
    go_enter Tryz.func7, Tryz.ntmps7
    go_wp2_with (go_at_call 14; refine (HV.out _ _ (HN.out.by (by ((repeat (first | (with_reducible exact Below.refl _ _) | (with_reducible refine below_drewN ?_ _) | (with_reducible refine Below.drew ?_) | (with_reducible refine below_al ?_ _) | (with_reducible refine below_on (by assumption) ?_) | ((with_reducible refine Below.setCell ?_ ?_ _); rotate_left; focus (first | omega | (simp; done) | (simp; omega))) | (with_reducible assumption))); done)))).mono ?_; rintro e w1 ⟨rfl, hb1⟩)
    go_ret
    exact ⟨ret_bool hr.out.symm, (by ((repeat (first | (with_reducible exact Below.refl _ _) | (with_reducible refine below_drewN ?_ _) | (with_reducible refine Below.drew ?_) | (with_reducible refine below_al ?_ _) | (with_reducible refine below_on (by assumption) ?_) | ((with_reducible refine Below.setCell ?_ ?_ _); rotate_left; focus (first | omega | (simp; done) | (simp; omega))) | (with_reducible assumption))); done))⟩
  | true =>
    rw [hv] at HV
    have hr := Lib.hid (coB_of c hv)
    obtain ⟨_, hl24, _, _, _⟩ := nlB_facts hv
    generalize coB x c = r at *
    generalize colsB c.1 x.nets = q1 at *
    generalize colsB c.2 x.ds.length = q2 at *
    clear hv h hc1 hc2 hok
    cases q1 <;> cases q2
    all_goals
      go_enter Tryz.func7, Tryz.ntmps7
      go_wp2_with (first | (go_at_call 14; refine (HV.out _ _ (HN.out.by (by ((repeat (first | (with_reducible exact Below.refl _ _) | (with_reducible refine below_drewN ?_ _) | (with_reducible refine Below.drew ?_) | (with_reducible refine below_al ?_ _) | (with_reducible refine below_on (by assumption) ?_) | ((with_reducible refine Below.setCell ?_ ?_ _); rotate_left; focus (first | omega | (simp; done) | (simp; omega))) | (with_reducible assumption))); done)))).mono ?_; rintro e w1 ⟨rfl, hb1⟩; have k0 : Blk w1 w.heap.size #[.int .i64 x.nets, .slice a x.ds.length ca, .slice a' x.ps.length ca'] 27 := (by ((repeat (first | (with_reducible assumption) | (with_reducible refine Blk.drewN ?_ _) | (with_reducible refine Blk.drew ?_) | ((with_reducible refine Blk.new _ ?_); focus (first | omega | (simp; done) | (simp; omega))) | (with_reducible refine Blk.past ?_ _) | ((with_reducible refine Blk.apart ?_ _ _ _ ?_); rotate_left; focus (first | omega | (simp; done) | (simp; omega))) | (with_reducible refine Blk.by (by assumption) ?_))); done)); have k1 : Blk w1 (w.heap.size + 1) #[.slice b c.1.length cb, .slice b' c.2.length cb'] 30 := (by ((repeat (first | (with_reducible assumption) | (with_reducible refine Blk.drewN ?_ _) | (with_reducible refine Blk.drew ?_) | ((with_reducible refine Blk.new _ ?_); focus (first | omega | (simp; done) | (simp; omega))) | (with_reducible refine Blk.past ?_ _) | ((with_reducible refine Blk.apart ?_ _ _ _ ?_); rotate_left; focus (first | omega | (simp; done) | (simp; omega))) | (with_reducible refine Blk.by (by assumption) ?_))); done)); have c0 := k0.cell; have c1 := k1.cell; have hbw : Below w.heap.size w w1 := (by ((repeat (first | (with_reducible exact Below.refl _ _) | (with_reducible refine below_drewN ?_ _) | (with_reducible refine Below.drew ?_) | (with_reducible refine below_al ?_ _) | (with_reducible refine below_on (by assumption) ?_) | ((with_reducible refine Below.setCell ?_ ?_ _); rotate_left; focus (first | omega | (simp; done) | (simp; omega))) | (with_reducible assumption))); done))) | (go_at_call_of 15 (Value.slice b c.1.length cb); refine (HL1.out _ (HC1.out.by hbw)).mono ?_; rintro e w' ⟨rfl, rfl⟩) | (go_at_call 15; refine (HL2.out _ (HC2.out.by hbw)).mono ?_; rintro e w' ⟨rfl, rfl⟩))
      go_ret
      exact ⟨ret_bool (by rw [hr.out]; rfl), hbw⟩

set_option maxRecDepth 100000 in
set_option maxHeartbeats 2000000 in
theorem implIsColoring_any (x : Nl) (c : List Int × List Int) (v u : Value) (w : World) (h : NlV w v x) (hc : CoV w u c) (hok : ∀ p ∈ x.ps, p.ok) (hnn : Fits x.nets) :
    Calls Tryz.prog 12 #[v, u] w fun e w' => e = .returned (.bool (coB x c)) ∧ Below w.heap.size w w' := by
  have HV := Lib.hid (fun v w h => implNl_any x v w h hok hnn)
  have HN := Lib.hid h
  obtain ⟨s1, s2, rfl, hc1, hc2⟩ := hc
  have HC1 := Lib.hid hc1
  have HC2 := Lib.hid hc2
  obtain ⟨a, ca, a', ca', rfl⟩ := h.sized
  obtain ⟨b, cb, rfl⟩ := hc1.len
  obtain ⟨b', cb', rfl⟩ := hc2.len
  have HL1 := Lib.hid (fun w h => validColors_any c.1 x.nets (.slice b c.1.length cb) w h)
  have HL2 := Lib.hid (fun w h => validColors_any c.2 x.ds.length (.slice b' c.2.length cb') w h)
  cases hv : nlB x with
  | false =>
    rw [hv] at HV
    have hr := Lib.hid (coB_nl c hv)
    generalize coB x c = r at *
    clear hv h hc1 hc2 hok
    go_enter Tryz.func12, Tryz.ntmps12
    go_wp2_with (go_at_call 16; refine (HV.out _ _ (HN.out.by (by ((repeat (first | (with_reducible exact Below.refl _ _) | (with_reducible refine below_drewN ?_ _) | (with_reducible refine Below.drew ?_) | (with_reducible refine below_al ?_ _) | (with_reducible refine below_on (by assumption) ?_) | ((with_reducible refine Below.setCell ?_ ?_ _); rotate_left; focus (first | omega | (simp; done) | (simp; omega))) | (with_reducible assumption))); done)))).mono ?_; rintro e w1 ⟨rfl, hb1⟩)
    go_ret
    exact ⟨ret_bool hr.out.symm, (by ((repeat (first | (with_reducible exact Below.refl _ _) | (with_reducible refine below_drewN ?_ _) | (with_reducible refine Below.drew ?_) | (with_reducible refine below_al ?_ _) | (with_reducible refine below_on (by assumption) ?_) | ((with_reducible refine Below.setCell ?_ ?_ _); rotate_left; focus (first | omega | (simp; done) | (simp; omega))) | (with_reducible assumption))); done))⟩
  | true =>
    rw [hv] at HV
    have hr := Lib.hid (coB_of c hv)
    obtain ⟨_, hl24, _, _, _⟩ := nlB_facts hv
    generalize coB x c = r at *
    generalize colsB c.1 x.nets = q1 at *
    generalize colsB c.2 x.ds.length = q2 at *
    clear hv h hc1 hc2 hok
    cases q1 <;> cases q2
    all_goals
      go_enter Tryz.func12, Tryz.ntmps12
      go_wp2_with (first | (go_at_call 16; refine (HV.out _ _ (HN.out.by (by ((repeat (first | (with_reducible exact Below.refl _ _) | (with_reducible refine below_drewN ?_ _) | (with_reducible refine Below.drew ?_) | (with_reducible refine below_al ?_ _) | (with_reducible refine below_on (by assumption) ?_) | ((with_reducible refine Below.setCell ?_ ?_ _); rotate_left; focus (first | omega | (simp; done) | (simp; omega))) | (with_reducible assumption))); done)))).mono ?_; rintro e w1 ⟨rfl, hb1⟩; have k0 : Blk w1 w.heap.size #[.int .i64 x.nets, .slice a x.ds.length ca, .slice a' x.ps.length ca'] 27 := (by ((repeat (first | (with_reducible assumption) | (with_reducible refine Blk.drewN ?_ _) | (with_reducible refine Blk.drew ?_) | ((with_reducible refine Blk.new _ ?_); focus (first | omega | (simp; done) | (simp; omega))) | (with_reducible refine Blk.past ?_ _) | ((with_reducible refine Blk.apart ?_ _ _ _ ?_); rotate_left; focus (first | omega | (simp; done) | (simp; omega))) | (with_reducible refine Blk.by (by assumption) ?_))); done)); have k1 : Blk w1 (w.heap.size + 1) #[.slice b c.1.length cb, .slice b' c.2.length cb'] 30 := (by ((repeat (first | (with_reducible assumption) | (with_reducible refine Blk.drewN ?_ _) | (with_reducible refine Blk.drew ?_) | ((with_reducible refine Blk.new _ ?_); focus (first | omega | (simp; done) | (simp; omega))) | (with_reducible refine Blk.past ?_ _) | ((with_reducible refine Blk.apart ?_ _ _ _ ?_); rotate_left; focus (first | omega | (simp; done) | (simp; omega))) | (with_reducible refine Blk.by (by assumption) ?_))); done)); have c0 := k0.cell; have c1 := k1.cell; have hbw : Below w.heap.size w w1 := (by ((repeat (first | (with_reducible exact Below.refl _ _) | (with_reducible refine below_drewN ?_ _) | (with_reducible refine Below.drew ?_) | (with_reducible refine below_al ?_ _) | (with_reducible refine below_on (by assumption) ?_) | ((with_reducible refine Below.setCell ?_ ?_ _); rotate_left; focus (first | omega | (simp; done) | (simp; omega))) | (with_reducible assumption))); done))) | (go_at_call_of 26 (Value.slice b c.1.length cb); refine (HL1.out _ (HC1.out.by hbw)).mono ?_; rintro e w2 ⟨rfl, hb2⟩; replace k0 := Blk.by hb2 k0; replace k1 := Blk.by hb2 k1; replace hbw := below_on hb2 hbw; clear c0 c1; have c0 := k0.cell; have c1 := k1.cell; clear hb2) | (go_at_call 26; refine (HL2.out _ (HC2.out.by hbw)).mono ?_; rintro e w3 ⟨rfl, hb3⟩))
      go_ret
      exact ⟨ret_bool (by rw [hr.out]; rfl), (by first | exact below_on hb3 hbw | exact hbw)⟩
end Go.Proofs.YtpaiiaajbojmnaaGreat
