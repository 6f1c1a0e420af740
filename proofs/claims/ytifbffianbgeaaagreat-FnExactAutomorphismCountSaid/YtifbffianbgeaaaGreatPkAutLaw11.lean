/- Contracts and plain laws, part 11, for the statement's proof. -/
import Derived.Test.YtifbffianbgeaaaGreatPkAutLaw10
import Derived.BigRegion
import Derived.Deep.RegionHeld3
import Derived.Deep.DeepCutAuto
import Derived.Deep.CutRange
namespace Go.Proofs.YtifbffianbgeaaaGreat
open Go.RowKit
set_option linter.unusedVariables false
set_option linter.unusedSimpArgs false
set_option maxRecDepth 100000 in
set_option maxHeartbeats 4000000 in
theorem equalFuncD_any (gf : Nat) (lb : Array Value) (eg : ∀ args w, (callFunc gf args).run Tryz.prog w = .ok (.enter gf args) w) (xs ys : List Dv) (s1 s2 : Value) (w : World) (h : DvSl w s1 xs) (h' : DvSl w s2 ys) (hl : xs.length ≤ 1000) (hl' : ys.length ≤ 1000)
    (hc : ∀ (W : World) (x y : Dv) (sx sy : Value), IntSl W sx x.pins → IntSl W sy y.pins → Calls Tryz.prog gf (#[.agg #[.int .i64 x.kind, sx, .int .i64 x.wd, .int .i64 x.len], .agg #[.int .i64 y.kind, sy, .int .i64 y.wd, .int .i64 y.len]] ++ lb) W fun e w' => e = .returned (.bool (decide (x = y))) ∧ Below W.heap.size W w') :
    Calls Tryz.prog 161 #[s1, s2, .func (.func gf) #[] lb] w fun e w' => e = .returned (.bool (decide (xs = ys))) ∧ Below w.heap.size w w' := by
  have HX := Lib.hid h
  have HY := Lib.hid h'
  have HC := Lib.hid hc
  obtain ⟨a1, c1, rfl⟩ := h.sized
  obtain ⟨a2, c2, rfl⟩ := h'.sized
  clear h h' hc
  by_cases hxy : xs.length = ys.length
  · have HEQ := Lib.hid (show (∀ k, k < xs.length → xs[k]? = ys[k]?) → xs = ys from fun h => List.ext_getElem? (fun i => by
      by_cases hi : i < xs.length
      · exact h i hi
      · rw [show xs[i]? = none by simp; omega, show ys[i]? = none by simp; omega]))
    rw [← hxy] at HY ⊢
    have HL := Lib.hid hxy
    obtain ⟨n, hn⟩ : ∃ n, xs.length = n := ⟨_, rfl⟩
    rw [hn] at HX HY HEQ hl ⊢
    have HN := Lib.hid hn
    clear hxy hn hl'
    go_enter Tryz.func161, Tryz.ntmps161
    go_wp2
    go_loopw [17] (fun i wr => ∃ k : Nat, k ≤ n ∧ i = .int .i64 k ∧ Hid (∀ j, j < k → xs[j]? = ys[j]?) ∧ Below w.heap.size w wr) (fun i _ => n - (intOf i).toNat)
    case atStart => exact ⟨0, Nat.zero_le _, rfl, Lib.hid (by intro j h; omega), blwT⟩
    case round =>
      obtain ⟨k, hk, rfl, HI, hb⟩ := hrel
      by_cases hlt : k < n
      · have i1 : (k : Int) < (n : Int) := by omega
        have i2 : decide (k < n) = true := decide_eq_true hlt
        obtain ⟨x, hx⟩ : ∃ x, xs[k]? = some x := ⟨_, List.getElem?_eq_getElem (by rw [HN.out]; exact hlt)⟩
        obtain ⟨y, hy⟩ : ∃ y, ys[k]? = some y := ⟨_, List.getElem?_eq_getElem (by rw [← HL.out, HN.out]; exact hlt)⟩
        rcases HX.out with ⟨_, _, _, h2⟩ | ⟨xb, xo, xc, he, _, _, h4⟩
        · rw [h2] at hx; simp at hx
        obtain ⟨rfl, rfl⟩ : a1 = some ⟨xb, xo, none⟩ ∧ c1 = xc := by
          simp only [Value.slice.injEq] at he
          exact ⟨he.1, he.2.2⟩
        rcases HY.out with ⟨_, _, _, h2⟩ | ⟨yb, yo, yc, he', _, _, h4'⟩
        · rw [h2] at hy; simp at hy
        obtain ⟨rfl, rfl⟩ : a2 = some ⟨yb, yo, none⟩ ∧ c2 = yc := by
          simp only [Value.slice.injEq] at he'
          exact ⟨he'.1, he'.2.2⟩
        obtain ⟨sx, x1, x2, x3, x4, x5⟩ := (h4 k x hx).by hb
        obtain ⟨sy, y1, y2, y3, y4, y5⟩ := (h4' k y hy).by hb
        have ly := lt_of_cell y1
        dsimp only at ly
        have y1' := cell_by' ((Below.refl _ wr).alloc (Nat.le_refl _) (.cells #[.int .i64 x.kind, sx, .int .i64 x.wd, .int .i64 x.len] 62)) y1
        have y2' := cell_by' ((Below.refl _ wr).alloc (Nat.le_refl _) (.cells #[.int .i64 x.kind, sx, .int .i64 x.wd, .int .i64 x.len] 62)) y2
        have y3' := cell_by' ((Below.refl _ wr).alloc (Nat.le_refl _) (.cells #[.int .i64 x.kind, sx, .int .i64 x.wd, .int .i64 x.len] 62)) y3
        have y4' := cell_by' ((Below.refl _ wr).alloc (Nat.le_refl _) (.cells #[.int .i64 x.kind, sx, .int .i64 x.wd, .int .i64 x.len] 62)) y4
        have HXP := Lib.hid x5
        have HYP := Lib.hid y5
        have HXK := Lib.hid hx
        have HYK := Lib.hid hy
        have hC := fun W => HC.out W x y sx sy
        obtain ⟨px, cx, rfl⟩ := x5.len
        obtain ⟨py, cy, rfl⟩ := y5.len
        obtain ⟨R, hR⟩ : ∃ R : Bool, decide (x = y) = R := ⟨_, rfl⟩
        rw [hR] at hC
        have HCC := Lib.hid hC
        have HDC := Lib.hid hR
        clear hC hR hx hy x5 y5 he he' h4 h4'
        cases R with
        | true =>
          have HI2 := Lib.hid (show ∀ j, j < k + 1 → xs[j]? = ys[j]? from fun j hj => by
            by_cases e : j = k
            · subst e; rw [HXK.out, HYK.out, of_decide_eq_true HDC.out]
            · exact HI.out j (by omega))
          go_wp2_with (go_at_fn gf; refine (HCC.out _ (HXP.out.by blwT) (HYP.out.by blwT)).mono ?_; rintro e w1 ⟨rfl, hb1⟩)
          exact ⟨⟨k + 1, by omega, by go_num, HI2, blwT⟩, by simp [intOf]; omega⟩
        | false =>
          have hne : Hid (¬ xs = ys) := Lib.hid (fun e => by
            have h1 := HXK.out
            rw [e, HYK.out] at h1
            exact of_decide_eq_false HDC.out (Option.some.inj h1).symm)
          go_wp2_with (go_at_fn gf; refine (HCC.out _ (HXP.out.by blwT) (HYP.out.by blwT)).mono ?_; rintro e w1 ⟨rfl, hb1⟩)
          go_ret
          exact ⟨ret_bool (decide_eq_false hne.out).symm, blwT⟩
      · obtain rfl : n = k := by omega
        have i1 : ¬ (n : Int) < (n : Int) := by omega
        have hr := Lib.hid (HEQ.out (fun j hj => HI.out j hj))
        go_wp2
        go_ret
        exact ⟨ret_bool (decide_eq_true hr.out).symm, blwT⟩
  · have hne : ¬ xs = ys := fun e => hxy (by rw [e])
    rw [decide_eq_false hne]
    have e1 : ((xs.length : Int) != (ys.length : Int)) = true := by simp; omega
    have e2 : ((xs.length : Int) == (ys.length : Int)) = false := by simp; omega
    clear hxy hne HX HY
    generalize xs.length = n1 at *
    generalize ys.length = n2 at *
    go_enter Tryz.func161, Tryz.ntmps161
    go_wp2
    go_ret
    exact ⟨rfl, blwT⟩
def srTo (g : Nat → List (List Int)) (one : Bool) : Nat → List (List Int)
  | 0 => []
  | k + 1 => if (one && decide (0 < (srTo g one k).length)) = true then srTo g one k else srTo g one k ++ g k
def srch (fit : List Int → Bool) (col : Nat → Nat → Bool) (n : Nat) (one : Bool) : Nat → List Int → List (List Int)
  | 0, nets => [nets]
  | r + 1, nets => srTo (fun k => if (col nets.length k && (!nets.contains (k : Int) && fit (nets ++ [(k : Int)]))) = true then srch fit col n one r (nets ++ [(k : Int)]) else []) one n
section
variable {g : Nat → List (List Int)} {one : Bool}
theorem srTo_stop {k : Nat} (h1 : one = true) (h : 0 < (srTo g one k).length) : ∀ m, srTo g one (k + m) = srTo g one k
  | 0 => rfl
  | m + 1 => by
    show (if (one && decide (0 < (srTo g one (k + m)).length)) = true then srTo g one (k + m) else srTo g one (k + m) ++ g (k + m)) = _
    rw [srTo_stop h1 h m, if_pos (by rw [h1] at h ⊢; simp [h])]
theorem srTo_one (h1 : one = true) (hg : ∀ k, (g k).length ≤ 1) : ∀ n : Nat, (srTo g one n).length ≤ 1
  | 0 => by simp [srTo]
  | n + 1 => by
    have ih := srTo_one h1 hg n
    have := hg n
    unfold srTo
    split
    · exact ih
    · rename_i q
      have : ¬ 0 < (srTo g one n).length := fun h => q (by rw [decide_eq_true h, h1]; rfl)
      rw [List.length_append]; omega
end
section
variable {fit : List Int → Bool} {col : Nat → Nat → Bool} {n : Nat} {one : Bool}
theorem srch_one (h1 : one = true) : ∀ (r : Nat) (nets : List Int), (srch fit col n one r nets).length ≤ 1
  | 0, nets => by simp [srch]
  | r + 1, nets => srTo_one h1 (fun k => by
      try dsimp only
      split
      · exact srch_one h1 r _
      · simp) n
end
theorem nodup_sub_len : ∀ {a b : List Int}, a.Nodup → (∀ z ∈ a, z ∈ b) → a.length ≤ b.length
  | [], b, _, _ => by simp
  | x :: a, b, hn, h => by
    have hx := h x (by simp)
    have hn' := List.nodup_cons.1 hn
    have := nodup_sub_len (a := a) (b := b.erase x) hn'.2 (fun z hz => by
      have : z ≠ x := fun e => hn'.1 (e ▸ hz)
      exact (List.mem_erase_of_ne this).2 (h z (by simp [hz])))
    rw [List.length_erase_of_mem hx] at this
    have hp := List.length_pos_of_mem hx
    rw [List.length_cons]; omega
theorem pt_in {x : Nl} (h : nlB x = true) {p : Pt} (hp : p ∈ x.ps) : 0 ≤ p.net ∧ p.net < x.nets := by
  obtain ⟨_, _, _, _, h5⟩ := nlB_facts h
  obtain ⟨i, hi, e⟩ := List.mem_iff_getElem.1 hp
  have := h5 i hi
  have e2 : x.ps[i]? = some p := by rw [List.getElem?_eq_getElem hi, e]
  unfold ptOk at this
  rw [e2] at this
  simp only [Bool.and_eq_true] at this
  have := inB_iff.1 this.2.1
  omega
def colB (cx cy : List Int) (i k : Nat) : Bool := decide (nmOf cx (i : Int) = nmOf cy (k : Int))
noncomputable def srchS (x y : Nl) (one : Bool) : List (List Int) := srch (fitB x y) (colB (refNet x).1.1 (refNet y).1.1) x.nets.toNat one x.nets.toNat []
theorem fit_root {x y : Nl} (hx : nlB x = true) (hy : nlB y = true) (hn : y.nets = x.nets) (hpl : y.ps.length = x.ps.length) : fitB x y [] = true := by
  obtain ⟨⟨n0, n1⟩, _, _, hdx, _⟩ := nlB_facts hx
  obtain ⟨_, _, _, hdy, _⟩ := nlB_facts hy
  obtain ⟨n, hnn⟩ : ∃ n : Nat, x.nets = n := ⟨x.nets.toNat, by omega⟩
  have hnt : x.nets.toNat = n := by omega
  rw [hn, hnn] at hdy
  rw [hnn] at hdx
  unfold fitB
  rw [hn, hnt, fit_same hdx hdy ⟨by simp, by simp⟩, Bool.and_eq_true]
  constructor
  · refine allB_yes (fun i hi => ?_)
    have ha : x.ps[i]? = some x.ps[i] := List.getElem?_eq_getElem hi
    have hb : y.ps[i]? = some (y.ps[i]'(by omega)) := List.getElem?_eq_getElem (by omega)
    have ra := pt_in hx (List.mem_of_getElem? ha)
    have rb := pt_in hy (List.mem_of_getElem? hb)
    unfold prtLR
    rw [ha, hb]
    simp only [decide_eq_true_eq]
    rw [nm_lefTo ra.1 (by omega), if_neg (by simp; omega)]
    exact (nm_rig_no (nets := []) ⟨by simp, by simp⟩ rb.1 (by omega) (by simp)).symm
  · unfold fitI
    rw [decide_eq_true_eq]
    have e : ∀ (P : Int → Bool) (hP : ∀ p, 0 ≤ p → P p = false) (ds : List Dv), (∀ d ∈ ds, dvB (n : Int) d = true) → ds.filter (fun d => d.pins.all P) = [] := fun P hP ds h => by
      rw [List.filter_eq_nil_iff]
      intro d hd hc
      have h2 := dvB_pins (h d hd)
      have hc := List.all_eq_true.1 hc
      cases hp : d.pins with
      | nil => rw [hp] at h2; simp at h2
      | cons a s =>
        have ha : a ∈ d.pins := by rw [hp]; simp
        have := hc a ha
        rw [hP a (h2.2.2 a ha).1] at this; cases this
    rw [e _ (fun p hp => by simpa using hp) x.ds hdx, List.filter_map]
    rw [show y.ds.filter ((fun d : Dv => d.pins.all fun p => ([] : List Int).contains p) ∘ nzD) = y.ds.filter (fun d => d.pins.all fun p => ([] : List Int).contains p) from filter_cong (fun d hd => nz_all _ (dvB_Two (hdy d hd)))]
    rw [e _ (fun p hp => by simp) y.ds hdy]
    rfl
theorem ba_loop (d : Array UInt8) : ∀ (n i : Nat) (r : List UInt8), d.size - i = n → ByteArray.toList.loop ⟨d⟩ i r = r.reverse ++ d.toList.drop i
  | 0, i, r, h => by
    rw [ByteArray.toList.loop]
    have hs : (ByteArray.mk d).size = d.size := rfl
    have hl : d.toList.length = d.size := Array.length_toList
    rw [if_neg (by omega), List.drop_eq_nil_of_le (by omega), List.append_nil]
  | n + 1, i, r, h => by
    rw [ByteArray.toList.loop]
    have hs : (ByteArray.mk d).size = d.size := rfl
    have hl : d.toList.length = d.size := Array.length_toList
    rw [if_pos (by omega), ba_loop d n (i + 1) _ (by omega), List.drop_eq_getElem_cons (by omega : i < d.toList.length)]
    have : (ByteArray.mk d).get! i = d.toList[i]'(by omega) := by
      show d[i]! = _
      rw [getElem!_pos d i (by omega)]
      exact (Array.getElem_toList _).symm
    rw [this, List.reverse_cons, List.append_assoc]; rfl
theorem ba_toList (s : ByteArray) : s.toList = s.data.toList := by
  cases s
  unfold ByteArray.toList
  rw [ba_loop _ _ 0 [] rfl]; rfl
theorem ba_inj {a b : ByteArray} (h : a.toList = b.toList) : a = b := by
  rw [ba_toList, ba_toList] at h
  exact ByteArray.ext (Array.toList_inj.1 h)
def fstNo (f : Nat → Bool) (n : Nat) : Int :=
  match (List.range n).find? (fun i => !f i) with
  | some i => (i : Int)
  | none => -1
theorem fstNo_none {f : Nat → Bool} {n : Nat} (h : ∀ i, i < n → f i = true) : fstNo f n = -1 := by
  unfold fstNo
  rw [List.find?_eq_none.2 (fun i hi => by simp [h i (List.mem_range.1 hi)])]
theorem fstNo_at {f : Nat → Bool} {n k : Nat} (hk : k < n) (h1 : f k = false) (h : ∀ i, i < k → f i = true) : fstNo f n = k := by
  unfold fstNo
  cases hf : (List.range n).find? (fun i => !f i) with
  | none =>
    have := List.find?_eq_none.1 hf k (List.mem_range.2 hk)
    simp [h1] at this
  | some j =>
    have hj := List.find?_some hf
    simp only [Bool.not_eq_true'] at hj
    obtain ⟨_, us, bs, e, hn⟩ := List.find?_eq_some_iff_append.1 hf
    have hlt := List.mem_range.1 (List.mem_of_find?_eq_some hf)
    have hil : us.length = j := by
      have e1 : (us ++ j :: bs)[us.length]? = some j := by simp
      rw [← e, List.getElem?_range (by have := congrArg List.length e; simp at this; omega)] at e1
      simpa using e1
    have h2 : ¬ j < k := fun q => by rw [h j q] at hj; cases hj
    have h3 : ¬ k < j := fun q => by
      have e1 : (List.range n)[k]? = some k := List.getElem?_range hk
      rw [e, List.getElem?_append_left (by omega)] at e1
      have := hn k (List.mem_of_getElem? e1)
      simp [h1] at this
    have : j = k := by omega
    subst this; rfl
theorem fstNo_cases (f : Nat → Bool) (n : Nat) : (fstNo f n = -1 ∧ ∀ i, i < n → f i = true) ∨ ∃ k : Nat, k < n ∧ fstNo f n = k ∧ f k = false ∧ ∀ i, i < k → f i = true := by
  by_cases h : ∃ k, k < n ∧ f k = false
  · have : ∀ m, (∀ i, i < m → f i = true) ∨ ∃ k, k < m ∧ f k = false ∧ ∀ i, i < k → f i = true := by
      intro m
      induction m with
      | zero => exact .inl (fun i hi => by omega)
      | succ m ih =>
        rcases ih with ih | ⟨k, a, b, c⟩
        · cases q : f m with
          | true =>
            exact .inl (fun i hi => by
              by_cases e : i = m
              · subst e; exact q
              · exact ih i (by omega))
          | false => exact .inr ⟨m, by omega, q, ih⟩
        · exact .inr ⟨k, by omega, b, c⟩
    rcases this n with h2 | ⟨k, a, b, c⟩
    · obtain ⟨k, a, b⟩ := h
      rw [h2 k a] at b; cases b
    · exact .inr ⟨k, a, fstNo_at a b c, b, c⟩
  · have h2 : ∀ i, i < n → f i = true := fun i hi => by
      cases q : f i with
      | true => rfl
      | false => exact absurd ⟨i, hi, q⟩ h
    exact .inl ⟨fstNo_none h2, h2⟩
def namAt (ps qs : List Pt) (i : Nat) : Bool :=
  match ps[i]?, qs[i]? with
  | some p, some q => p.name.toList == q.name.toList
  | _, _ => false
def namD (ps qs : List Pt) : Int := fstNo (namAt ps qs) (max ps.length qs.length)
theorem names_of {x y : Nl} {p q : List Int} (H : NlIso x y p q) : namD x.ps y.ps = -1 := by
  refine fstNo_none (fun i hi => ?_)
  have := H.plen
  have ha : x.ps[i]? = some (x.ps[i]'(by omega)) := List.getElem?_eq_getElem (by omega)
  obtain ⟨b, hb, e, _⟩ := H.port i _ ha
  unfold namAt
  rw [ha, hb]
  simp [e]
theorem namD_no {ps qs : List Pt} (h : namD ps qs = -1) : qs.length = ps.length ∧ ∀ (i : Nat) (a b : Pt), ps[i]? = some a → qs[i]? = some b → b.name = a.name := by
  rcases fstNo_cases (namAt ps qs) (max ps.length qs.length) with ⟨_, h2⟩ | ⟨k, _, e, _⟩
  · have hl : qs.length = ps.length := by
      by_cases q : ps.length < qs.length
      · have := h2 ps.length (by omega)
        unfold namAt at this
        rw [show ps[ps.length]? = none by simp] at this
        simp at this
      · by_cases q2 : qs.length < ps.length
        · have := h2 qs.length (by omega)
          unfold namAt at this
          rw [show qs[qs.length]? = none by simp, List.getElem?_eq_getElem q2] at this
          simp at this
        · omega
    refine ⟨hl, fun i a b ha hb => ?_⟩
    have hi := (List.getElem?_eq_some_iff.1 ha).1
    have := h2 i (by omega)
    unfold namAt at this
    rw [ha, hb] at this
    simp only [beq_iff_eq] at this
    have e : b.name.toList = a.name.toList := this.symm
    exact ba_inj e
  · unfold namD at h; omega
theorem mem_portTo {ps : List Pt} {net : Int} {k j : Nat} : (j : Int) ∈ portTo ps net k ↔ j < k ∧ ∃ p, ps[j]? = some p ∧ p.net = net := by
  unfold portTo
  rw [List.mem_map]
  constructor
  · rintro ⟨i, hi, e⟩
    rw [List.mem_filter, List.mem_range] at hi
    have : i = j := by omega
    subst this
    refine ⟨hi.1, ?_⟩
    cases hp : ps[i]? with
    | none => rw [hp] at hi; simp at hi
    | some p => rw [hp] at hi; exact ⟨p, rfl, by simpa using hi.2⟩
  · rintro ⟨h1, p, hp, e⟩
    exact ⟨j, by rw [List.mem_filter, List.mem_range, hp]; exact ⟨h1, by simpa using e⟩, rfl⟩
theorem nm_rig_snoc {n : Nat} {nets : List Int} {k : Int} (hg : goodN n (nets ++ [k])) {b : Int} (h0 : 0 ≤ b) (h1 : b < n) :
    nmOf (rigTo n (nets ++ [k]) (nets ++ [k]).length) b = if b = k then (nets.length : Int) else nmOf (rigTo n nets nets.length) b := by
  have hg' : goodN n nets := ⟨(List.nodup_append.1 hg.1).1, fun z hz => hg.2 z (List.mem_append.2 (.inl hz))⟩
  have hl : (nets ++ [k]).length = nets.length + 1 := by simp
  have hin : ∀ i : Nat, i < nets.length → nmOf (nets ++ [k]) (i : Int) = nmOf nets (i : Int) := fun i hi => by
    unfold nmOf; rw [Int.toNat_natCast, List.getD_eq_getElem?_getD, List.getD_eq_getElem?_getD, List.getElem?_append_left hi]
  have hk : nmOf (nets ++ [k]) (nets.length : Int) = k := by unfold nmOf; simp [List.getD_eq_getElem?_getD]
  by_cases e : b = k
  · rw [if_pos e, e]
    have := nm_rig hg (i := nets.length) (by omega)
    rw [hk] at this; exact this
  · rw [if_neg e]
    by_cases hb : b ∈ nets
    · obtain ⟨i, hi, rfl⟩ := mem_nm hb
      have a1 := nm_rig hg (i := i) (by omega)
      rw [hin i hi] at a1
      rw [a1, nm_rig hg' hi]
    · rw [nm_rig_no hg' h0 h1 hb]
      exact nm_rig_no hg h0 h1 (fun h => by
        rcases List.mem_append.1 h with h | h
        · exact hb h
        · exact e (by simpa using h))
theorem port_step {ps qs : List Pt} {n : Nat} {nets : List Int} {k : Int} (hp : ∀ p ∈ ps, 0 ≤ p.net ∧ p.net < (n : Int)) (hq : ∀ p ∈ qs, 0 ≤ p.net ∧ p.net < (n : Int)) (hl : qs.length = ps.length) (hg : goodN n (nets ++ [k]))
    (h : allB (prtLR ps qs (lefTo n nets.length) (rigTo n nets nets.length)) ps.length = true) :
    allB (prtLR ps qs (lefTo n (nets ++ [k]).length) (rigTo n (nets ++ [k]) (nets ++ [k]).length)) ps.length = decide (portTo ps (nets.length : Int) ps.length = portTo qs k qs.length) := by
  have hll : (nets ++ [k]).length = nets.length + 1 := by simp
  have at_ : ∀ j, j < ps.length → ∃ a b, ps[j]? = some a ∧ qs[j]? = some b ∧ (0 ≤ a.net ∧ a.net < (n : Int)) ∧ (0 ≤ b.net ∧ b.net < (n : Int)) := fun j hj => by
    have ha : ps[j]? = some ps[j] := List.getElem?_eq_getElem hj
    have hb : qs[j]? = some (qs[j]'(by omega)) := List.getElem?_eq_getElem (by omega)
    exact ⟨_, _, ha, hb, hp _ (List.mem_of_getElem? ha), hq _ (List.mem_of_getElem? hb)⟩
  have old : ∀ j a b, j < ps.length → ps[j]? = some a → qs[j]? = some b → (if a.net < (nets.length : Int) then a.net else -1) = nmOf (rigTo n nets nets.length) b.net := fun j a b hj ha hb => by
    have := h
    simp only [allB, List.all_eq_true, List.mem_range] at this
    have := this j hj
    unfold prtLR at this
    rw [ha, hb] at this
    have h2 := of_decide_eq_true this
    have r := hp _ (List.mem_of_getElem? ha)
    rw [nm_lefTo r.1 r.2] at h2
    exact h2
  have new : ∀ j a b, j < ps.length → ps[j]? = some a → qs[j]? = some b → prtLR ps qs (lefTo n (nets ++ [k]).length) (rigTo n (nets ++ [k]) (nets ++ [k]).length) j = decide ((if a.net < (nets.length : Int) + 1 then a.net else -1) = if b.net = k then (nets.length : Int) else nmOf (rigTo n nets nets.length) b.net) := fun j a b hj ha hb => by
    have r := hp _ (List.mem_of_getElem? ha)
    have s := hq _ (List.mem_of_getElem? hb)
    unfold prtLR
    rw [ha, hb]
    dsimp only
    rw [nm_lefTo r.1 r.2, nm_rig_snoc hg s.1 s.2, hll]
    simp
  have lt : ∀ j a b, j < ps.length → ps[j]? = some a → qs[j]? = some b → nmOf (rigTo n nets nets.length) b.net < (nets.length : Int) := fun j a b hj ha hb => by
    rw [← old j a b hj ha hb]; split <;> omega
  have iff : allB (prtLR ps qs (lefTo n (nets ++ [k]).length) (rigTo n (nets ++ [k]) (nets ++ [k]).length)) ps.length = true ↔ ∀ j a b, j < ps.length → ps[j]? = some a → qs[j]? = some b → (a.net = (nets.length : Int) ↔ b.net = k) := by
    constructor
    · intro hA j a b hj ha hb
      simp only [allB, List.all_eq_true, List.mem_range] at hA
      have h2 := hA j hj
      rw [new j a b hj ha hb] at h2
      have h2 := of_decide_eq_true h2
      have := lt j a b hj ha hb
      have := (hp _ (List.mem_of_getElem? ha)).1
      constructor
      · intro e
        by_cases q : b.net = k
        · exact q
        · rw [if_neg q, if_pos (by omega)] at h2; omega
      · intro e
        rw [if_pos e] at h2
        split at h2 <;> omega
    · intro hA
      refine allB_yes (fun j hj => ?_)
      obtain ⟨a, b, ha, hb, r, s⟩ := at_ j hj
      rw [new j a b hj ha hb]
      have h1 := hA j a b hj ha hb
      have h2 := old j a b hj ha hb
      refine decide_eq_true ?_
      by_cases q : b.net = k
      · rw [if_pos q, if_pos (by have := h1.2 q; omega)]; exact h1.2 q
      · have : ¬ a.net = (nets.length : Int) := fun e => q (h1.1 e)
        rw [if_neg q, ← h2]
        by_cases q2 : a.net < (nets.length : Int)
        · rw [if_pos q2, if_pos (by omega)]
        · rw [if_neg q2, if_neg (by omega)]
  have iff2 : portTo ps (nets.length : Int) ps.length = portTo qs k qs.length ↔ ∀ j a b, j < ps.length → ps[j]? = some a → qs[j]? = some b → (a.net = (nets.length : Int) ↔ b.net = k) := by
    constructor
    · intro e j a b hj ha hb
      have m1 := mem_portTo (ps := ps) (net := (nets.length : Int)) (k := ps.length) (j := j)
      have m2 := mem_portTo (ps := qs) (net := k) (k := qs.length) (j := j)
      rw [e] at m1
      have := m1.symm.trans m2
      rw [ha, hb] at this
      constructor
      · intro q
        obtain ⟨_, p, hp', h'⟩ := this.1 ⟨hj, a, rfl, q⟩
        cases hp'; exact h'
      · intro q
        obtain ⟨_, p, hp', h'⟩ := this.2 ⟨by omega, b, rfl, q⟩
        cases hp'; exact h'
    · intro hA
      unfold portTo
      rw [hl]
      congr 1
      refine List.filter_congr (fun j hj => ?_)
      obtain ⟨a, b, ha, hb, _, _⟩ := at_ j (List.mem_range.1 hj)
      rw [ha, hb]
      exact decide_eq_decide.2 (hA j a b (List.mem_range.1 hj) ha hb)
  rw [Bool.eq_iff_iff, iff, decide_eq_true_iff, iff2]
theorem fit_step {x y : Nl} {nets : List Int} {k : Int} (hx : nlB x = true) (hy : nlB y = true) (hn : y.nets = x.nets) (hpl : y.ps.length = x.ps.length) (hg : goodN x.nets.toNat (nets ++ [k])) (h : fitB x y nets = true) :
    fitB x y (nets ++ [k]) = (decide (portTo x.ps (nets.length : Int) x.ps.length = portTo y.ps k y.ps.length) && fitI x y (nets ++ [k])) := by
  obtain ⟨⟨n0, n1⟩, _, _, hdx, _⟩ := nlB_facts hx
  obtain ⟨_, _, _, hdy, _⟩ := nlB_facts hy
  obtain ⟨n, hnn⟩ : ∃ n : Nat, x.nets = n := ⟨x.nets.toNat, by omega⟩
  have hnt : x.nets.toNat = n := by omega
  rw [hn, hnn] at hdy
  rw [hnn] at hdx
  rw [hnt] at hg
  unfold fitB at h ⊢
  rw [hn, hnt] at h ⊢
  rw [Bool.and_eq_true] at h
  rw [fit_same hdx hdy hg, port_step (fun p hp => by have := pt_in hx hp; omega) (fun p hp => by have := pt_in hy hp; omega) hpl hg h.1]
def innTo (ds : List Dv) (names : List Int) (k : Nat) : List Dv := ((ds.take k).filter (inD names)).map fun d => nzD (renD names d)
theorem innTo_step {ds : List Dv} (names : List Int) {k : Nat} {d : Dv} (h : ds[k]? = some d) : innTo ds names (k + 1) = innTo ds names k ++ (if inD names d = true then [nzD (renD names d)] else []) := by
  unfold innTo
  rw [take_snoc_of ds k d h, List.filter_append, List.map_append]
  congr 1
  by_cases q : inD names d = true
  · rw [if_pos q, List.filter_cons_of_pos q]; rfl
  · rw [if_neg q, List.filter_cons_of_neg q]; rfl
theorem innTo_len (ds : List Dv) (names : List Int) (k : Nat) : (innTo ds names k).length ≤ k := by
  unfold innTo
  rw [List.length_map]
  have := List.length_filter_le (inD names) (ds.take k)
  have := List.length_take_le k ds
  omega
theorem innTo_all (ds : List Dv) (names : List Int) : srtD (innTo ds names ds.length) = innerS ds names := by
  unfold innTo innerS; rw [List.take_length]
def inTo (names pins : List Int) (j : Nat) : Bool := (pins.take j).all fun p => decide (0 ≤ nmOf names p)
theorem inTo_step (names : List Int) {pins : List Int} {j : Nat} {p : Int} (h : pins[j]? = some p) : inTo names pins (j + 1) = (inTo names pins j && decide (0 ≤ nmOf names p)) := by
  unfold inTo
  rw [take_snoc_of pins j p h, List.all_append]; simp
theorem inTo_all (names : List Int) (d : Dv) : inTo names d.pins d.pins.length = inD names d := by
  unfold inTo inD; rw [List.take_length]
def negTo (n k : Nat) : List Int := List.replicate k (-1) ++ List.replicate (n - k) 0
theorem negTo_zero (n : Nat) : negTo n 0 = List.replicate n 0 := by unfold negTo; simp
theorem negTo_all (n : Nat) : negTo n n = List.replicate n (-1) := by unfold negTo; simp
theorem negTo_step {n k : Nat} (h : k < n) : (negTo n k).set k (-1) = negTo n (k + 1) := by
  unfold negTo
  rw [List.set_append_right _ _ (by simp)]
  simp only [List.length_replicate, Nat.sub_self]
  rw [show n - k = (n - (k + 1)) + 1 by omega, List.replicate_succ, List.set_cons_zero, List.replicate_succ' (n := k), List.append_assoc]
  rfl
theorem srTo_next {g : Nat → List (List Int)} {one : Bool} {k : Nat} (h : ¬ (one && decide (0 < (srTo g one k).length)) = true) : srTo g one (k + 1) = srTo g one k ++ g k := by
  show (if _ then _ else _) = _
  rw [if_neg h]
def srcB (x y : Nl) (col : Nat → Nat → Bool) (n : Nat) (one : Bool) (r : Nat) (nets : List Int) : List (List Int) := if fitB x y nets = true then srch (fitB x y) col n one r nets else []
theorem srcB_succ (x y : Nl) (col : Nat → Nat → Bool) (n : Nat) (one : Bool) (r : Nat) (nets : List Int) (h : fitB x y nets = true) :
    srcB x y col n one (r + 1) nets = srTo (fun k => if (col nets.length k && !nets.contains (k : Int)) = true then srcB x y col n one r (nets ++ [(k : Int)]) else []) one n := by
  unfold srcB
  rw [if_pos h]
  show srTo _ one n = _
  congr 1
  funext k
  by_cases q : (col nets.length k && !nets.contains (k : Int)) = true
  · rw [if_pos q]
    simp only [Bool.and_eq_true] at q
    by_cases f : fitB x y (nets ++ [(k : Int)]) = true
    · rw [if_pos (by rw [q.1, q.2, f]; rfl), if_pos f]
    · rw [if_neg (by rw [q.1, q.2]; simpa using f), if_neg f]
  · rw [if_neg q, if_neg (fun h => q (by
      simp only [Bool.and_eq_true] at h ⊢
      exact ⟨h.1, h.2.1⟩))]
theorem filt_step {α : Type} {p : α → Bool} {xs : List α} {k : Nat} {x : α} (h : xs[k]? = some x) : (xs.take (k + 1)).filter p = (xs.take k).filter p ++ (if p x = true then [x] else []) := by
  rw [take_snoc_of xs k x h, List.filter_append]
  congr 1
  cases hp : p x <;> simp [hp]
def lowB (n : Nat) (d : Dv) : Bool := d.pins.all fun p => decide (p < (n : Int))
def amB (nets : List Int) (d : Dv) : Bool := d.pins.all fun p => nets.contains p
def mpTo (ds : List Dv) (nets : List Int) (k : Nat) : List Dv := ((ds.take k).filter (lowB nets.length)).map fun d => nzD (renD nets d)
def owTo (es : List Dv) (nets : List Int) (k : Nat) : List Dv := (es.take k).filter (amB nets)
theorem mpTo_step {ds : List Dv} (nets : List Int) {k : Nat} {d : Dv} (h : ds[k]? = some d) : mpTo ds nets (k + 1) = mpTo ds nets k ++ (if lowB nets.length d = true then [nzD (renD nets d)] else []) := by
  unfold mpTo
  rw [filt_step h, List.map_append]
  congr 1
  split <;> rfl
theorem owTo_step {es : List Dv} (nets : List Int) {k : Nat} {d : Dv} (h : es[k]? = some d) : owTo es nets (k + 1) = owTo es nets k ++ (if amB nets d = true then [d] else []) := filt_step h
theorem mpTo_len (ds : List Dv) (nets : List Int) (k : Nat) : (mpTo ds nets k).length ≤ k := by
  unfold mpTo
  rw [List.length_map]
  exact Nat.le_trans (List.length_filter_le _ _) (by rw [List.length_take]; omega)
theorem owTo_len (es : List Dv) (nets : List Int) (k : Nat) : (owTo es nets k).length ≤ k := by
  unfold owTo
  exact Nat.le_trans (List.length_filter_le _ _) (by rw [List.length_take]; omega)
theorem fitI_eq (x y : Nl) (nets : List Int) : fitI x y nets = decide (srtD (mpTo x.ds nets x.ds.length) = srtD (owTo (y.ds.map nzD) nets (y.ds.map nzD).length)) := by
  unfold fitI mpTo owTo lowB amB
  rw [List.take_length, List.take_length]
theorem amB_any (nets : List Int) (d : Dv) : d.pins.any (fun p => !nets.contains p) = !amB nets d := by
  unfold amB
  induction d.pins with
  | nil => rfl
  | cons a l ih => rw [List.any_cons, List.all_cons, ih, Bool.not_and]
theorem lowB_max {n : Nat} {d : Dv} {m : Int} (h1 : m ∈ d.pins) (h2 : ∀ z ∈ d.pins, z ≤ m) : lowB n d = decide (m ≤ (n : Int) - 1) := by
  unfold lowB
  rw [Bool.eq_iff_iff, List.all_eq_true, decide_eq_true_iff]
  constructor
  · intro h
    have := h m h1
    simp at this
    omega
  · intro h p hp
    have := h2 p hp
    simp
    omega
theorem UsedB.drop {w : World} {g n k : Nat} {zs : List Int} (h : UsedB w g n (zs ++ [(k : Int)])) (hk : k < n) (hc : zs.contains (k : Int) = false) : UsedB (w.setCell ⟨g, k, none⟩ (.bool false)) g n zs := by
  obtain ⟨cs, a, b, c⟩ := h
  refine ⟨_, a.set k _, by simpa using b, fun j hj => ?_⟩
  by_cases e : j = k
  · subst e
    rw [Array.getElem?_setIfInBounds_self_of_lt (by omega), hc]
  · rw [Array.getElem?_setIfInBounds_ne (by omega), c j hj]
    congr 2
    rw [List.contains_eq_mem, List.contains_eq_mem]
    refine decide_eq_decide.2 ⟨fun h => ?_, fun h => List.mem_append.2 (.inl h)⟩
    rcases List.mem_append.1 h with h | h
    · exact h
    · rw [List.mem_singleton] at h; omega
def stG (x y : Nl) (col : Nat → Nat → Bool) (n : Nat) (one : Bool) (r : Nat) (nets : List Int) (k : Nat) : List (List Int) :=
  if (col nets.length k && (!nets.contains (k : Int) && fitB x y (nets ++ [(k : Int)]))) = true then srch (fitB x y) col n one r (nets ++ [(k : Int)]) else []
set_option maxRecDepth 100000 in
set_option maxHeartbeats 4000000 in
theorem implNorm_no (kind wd len : Int) (sv : Value) (zs : List Int) (w : World) (h : IntSl w sv zs) (hn : zs.length ≤ 1048576) (hno : ¬ (0 < pinc kind ∧ (zs.length : Int) = pinc kind)) :
    Calls Tryz.prog 63 #[.agg #[.int .i64 kind, sv, .int .i64 wd, .int .i64 len]] w fun e w' => ∃ v, e = .returned (.agg #[.int .i64 kind, v, .int .i64 wd, .int .i64 len]) ∧ OwnI w' w.heap.size v zs ∧ Below w.heap.size w w' := by
  have HC := Lib.hid (fun w h => copyDevice_any kind wd len sv zs w h hn)
  have h1 := h.by (((Below.refl _ w).alloc (Nat.le_refl _) (.cells #[.int .i64 kind, sv, .int .i64 wd, .int .i64 len] 62)).alloc (by simp) (.cells #[.int .i64 0, .slice none 0 0, .int .i64 0, .int .i64 0] 62))
  obtain ⟨a, c, rfl⟩ := h.len
  clear h
  have HP := Lib.hid (fun w => pinCount_any kind w)
  obtain ⟨m, hm⟩ : ∃ m, pinc kind = m := ⟨_, rfl⟩
  have hm0 : 0 ≤ m ∧ m ≤ 3 := by rw [← hm]; unfold pinc; (repeat' split) <;> omega
  rw [hm] at hno HP
  clear hm
  go_enter Tryz.func63, Tryz.ntmps63
  go_wp2_with fail
  refine (HC.out _ h1).mono ?_
  rintro e w1 ⟨v, rfl, hO, hb1⟩
  clear h1
  have k0 : Blk w1 w.heap.size #[.int .i64 kind, .slice a zs.length c, .int .i64 wd, .int .i64 len] 62 := blkT
  have k1 : Blk w1 (w.heap.size + 1) #[.int .i64 0, .slice none 0 0, .int .i64 0, .int .i64 0] 62 := blkT
  have hW : Below w.heap.size w w1 := blwT
  clear hb1
  have c0 := k0.cell
  have f0 := k0.free
  have l0 := k0.lt
  have c1' := k1.cell
  have f1 := k1.free
  have l1 := k1.lt
  obtain ⟨a1, c1, rfl⟩ := hO.len
  simp at hO
  have hO' := hO.alloc (.cells #[.int .i64 kind, .slice a1 zs.length c1, .int .i64 wd, .int .i64 len] 62)
  clear hO
  go_wp2_with fail
  refine (HP.out _).mono ?_
  rintro e w2 ⟨rfl, rfl⟩
  have k3 : Blk (w1.alloc (.cells #[.int .i64 kind, .slice a1 zs.length c1, .int .i64 wd, .int .i64 len] 62)) w1.heap.size #[.int .i64 kind, .slice a1 zs.length c1, .int .i64 wd, .int .i64 len] 62 := Blk.new _ rfl
  replace k0 := k0.past (.cells #[.int .i64 kind, .slice a1 zs.length c1, .int .i64 wd, .int .i64 len] 62)
  replace k1 := k1.past (.cells #[.int .i64 kind, .slice a1 zs.length c1, .int .i64 wd, .int .i64 len] 62)
  replace hW := below_al hW (.cells #[.int .i64 kind, .slice a1 zs.length c1, .int .i64 wd, .int .i64 len] 62)
  clear c0 f0 l0 c1' f1
  generalize w1.heap.size = px at *
  generalize w1.alloc (.cells #[.int .i64 kind, .slice a1 zs.length c1, .int .i64 wd, .int .i64 len] 62) = w2 at *
  have c0 := k0.cell
  have c1' := k1.cell
  have f1 := k1.free
  have c2 := k3.cell
  have f2 := k3.free
  by_cases hpos : 0 < m
  · have hne : decide ((zs.length : Int) = m) = false := decide_eq_false (fun h => hno ⟨hpos, h⟩)
    have hd : decide (0 < m) = true := decide_eq_true hpos
    have hne' : ¬ (zs.length : Int) = m := fun h => hno ⟨hpos, h⟩
    have hne2 : ((zs.length : Int) == m) = false := by simpa using hne'
    clear hno
    go_wp2
    go_quiet (fail)
    go_wp2
    refine bodyPost_ret (v := .agg #[.int .i64 kind, .slice a1 zs.length c1, .int .i64 wd, .int .i64 len]) (by simp [results, Tryz.results63, go_sem, *]) rfl ⟨_, rfl, ?_, blwT⟩
    refine OwnI.low ?_ (show w.heap.size ≤ w.heap.size + 2 by omega)
    repeat (first | (with_reducible exact hO') | (with_reducible refine OwnI.drewN ?_ _) | ((with_reducible refine OwnI.apart ?_ _ _ _ ?_); rotate_left; focus omega))
  · have hd : decide (0 < m) = false := decide_eq_false hpos
    clear hno
    go_wp2
    go_quiet (fail)
    go_wp2
    refine bodyPost_ret (v := .agg #[.int .i64 kind, .slice a1 zs.length c1, .int .i64 wd, .int .i64 len]) (by simp [results, Tryz.results63, go_sem, *]) rfl ⟨_, rfl, ?_, blwT⟩
    refine OwnI.low ?_ (show w.heap.size ≤ w.heap.size + 2 by omega)
    repeat (first | (with_reducible exact hO') | (with_reducible refine OwnI.drewN ?_ _) | ((with_reducible refine OwnI.apart ?_ _ _ _ ?_); rotate_left; focus omega))
set_option maxRecDepth 100000 in
set_option maxHeartbeats 4000000 in
theorem implNorm_two (kind wd len : Int) (sv : Value) (p q : Int) (w : World) (h : IntSl w sv [p, q]) (hk : pinc kind = 2) :
    Calls Tryz.prog 63 #[.agg #[.int .i64 kind, sv, .int .i64 wd, .int .i64 len]] w fun e w' => ∃ v, e = .returned (.agg #[.int .i64 kind, v, .int .i64 wd, .int .i64 len]) ∧ OwnI w' w.heap.size v [min p q, max p q] ∧ Below w.heap.size w w' := by
  have HC := Lib.hid (fun w h => copyDevice_any kind wd len sv [p, q] w h (by simp))
  have h1 := h.by (((Below.refl _ w).alloc (Nat.le_refl _) (.cells #[.int .i64 kind, sv, .int .i64 wd, .int .i64 len] 62)).alloc (by simp) (.cells #[.int .i64 0, .slice none 0 0, .int .i64 0, .int .i64 0] 62))
  rcases h with ⟨_, _, _, h2⟩ | ⟨b, off, cap, hsv, h2, h3, h4⟩
  · simp at h2
  simp only [List.length_cons, List.length_nil, Nat.zero_add, Nat.reduceAdd] at hsv h2
  subst hsv
  clear h4
  have HP := Lib.hid (fun w => pinCount_any kind w)
  rw [hk] at HP
  clear hk
  go_enter Tryz.func63, Tryz.ntmps63
  go_wp2_with fail
  refine (HC.out _ h1).mono ?_
  rintro e w1 ⟨v, rfl, hO, hb1⟩
  clear h1
  have k0 : Blk w1 w.heap.size #[.int .i64 kind, .slice (some ⟨b, off, none⟩) 2 cap, .int .i64 wd, .int .i64 len] 62 := blkT
  have k1 : Blk w1 (w.heap.size + 1) #[.int .i64 0, .slice none 0 0, .int .i64 0, .int .i64 0] 62 := blkT
  have hW : Below w.heap.size w w1 := blwT
  clear hb1
  have c0 := k0.cell
  have f0 := k0.free
  have l0 := k0.lt
  have c1' := k1.cell
  have f1 := k1.free
  have l1 := k1.lt
  rcases hO with ⟨_, _, _, hO⟩ | ⟨g, cap1, cs, hv, hlo, hcap, hmax, hG, hG'⟩
  · simp at hO
  simp only [List.length_cons, List.length_nil, Nat.zero_add, Nat.reduceAdd] at hv hcap
  subst hv
  simp at hlo
  have hgp := hG.lt
  replace hG := hG.past (.cells #[.int .i64 kind, .slice (some ⟨g, 0, none⟩) 2 cap1, .int .i64 wd, .int .i64 len] 62)
  go_wp2_with fail
  refine (HP.out _).mono ?_
  rintro e w2 ⟨rfl, rfl⟩
  have k3 : Blk (w1.alloc (.cells #[.int .i64 kind, .slice (some ⟨g, 0, none⟩) 2 cap1, .int .i64 wd, .int .i64 len] 62)) w1.heap.size #[.int .i64 kind, .slice (some ⟨g, 0, none⟩) 2 cap1, .int .i64 wd, .int .i64 len] 62 := Blk.new _ rfl
  replace k0 := k0.past (.cells #[.int .i64 kind, .slice (some ⟨g, 0, none⟩) 2 cap1, .int .i64 wd, .int .i64 len] 62)
  replace k1 := k1.past (.cells #[.int .i64 kind, .slice (some ⟨g, 0, none⟩) 2 cap1, .int .i64 wd, .int .i64 len] 62)
  replace hW := below_al hW (.cells #[.int .i64 kind, .slice (some ⟨g, 0, none⟩) 2 cap1, .int .i64 wd, .int .i64 len] 62)
  clear c0 f0 l0 c1' f1
  generalize w1.heap.size = px at *
  generalize w1.alloc (.cells #[.int .i64 kind, .slice (some ⟨g, 0, none⟩) 2 cap1, .int .i64 wd, .int .i64 len] 62) = w2 at *
  have c0 := k0.cell
  have c1' := k1.cell
  have f1 := k1.free
  have c2 := k3.cell
  have f2 := k3.free
  have hG0 := hG' 0 p rfl
  have hG1 := hG' 1 q rfl
  have cg := hG.cell
  have fg := hG.free
  have cp : w2.cell? ⟨g, 0, none⟩ = some (.int .i64 p) := (hG.cell 0).trans hG0
  have cq : w2.cell? ⟨g, 1, none⟩ = some (.int .i64 q) := (hG.cell 1).trans hG1
  have wr0 : IntKind.i64.wrap 0 = 0 := by decide
  have wr1 : IntKind.i64.wrap 1 = 1 := by decide
  have wr2 : IntKind.i64.wrap 2 = 2 := by decide
  clear hG'
  by_cases hpq : q < p
  · have hd : decide (q < p) = true := decide_eq_true hpq
    go_wp2
    go_quiet (fail)
    have e1 : min p q = q := by omega
    have e2 : max p q = p := by omega
    have E1 := Lib.hid e1
    have E2 := Lib.hid e2
    clear e1 e2 hpq
    go_wp2_with fail
    replace hG := hG.drewN nq
    replace k1 := k1.drewN nq
    replace k3 := k3.drewN nq
    replace hW := below_drewN hW nq
    clear c0 c1' f1 c2 f2 cg fg cp cq k0
    generalize w2.drewN nq = w3 at *
    have c1' := k1.cell
    have f1 := k1.free
    have c2 := k3.cell
    have f2 := k3.free
    have cp : w3.cell? ⟨g, 0, none⟩ = some (.int .i64 p) := (hG.cell 0).trans hG0
    have cq : w3.cell? ⟨g, 1, none⟩ = some (.int .i64 q) := (hG.cell 1).trans hG1
    have fg := hG.free
    go_region
    have hs0 : 0 < cs.size := by rcases Nat.lt_or_ge 0 cs.size with h | h; exact h; (rw [Array.getElem?_eq_none h] at hG0; cases hG0)
    have hs1 : 1 < cs.size := by rcases Nat.lt_or_ge 1 cs.size with h | h; exact h; (rw [Array.getElem?_eq_none h] at hG1; cases hG1)
    replace hG : Blk (((w3.setCell ⟨g, 0, none⟩ (.int .i64 q)).setCell ⟨g, 1, none⟩ (.int .i64 p)).drew) g ((cs.setIfInBounds 0 (.int .i64 q)).setIfInBounds 1 (.int .i64 p)) 2 := ((hG.set 0 (.int .i64 q)).set 1 (.int .i64 p)).drew
    replace k1 := ((k1.apart g 0 (.int .i64 q) (by omega)).apart g 1 (.int .i64 p) (by omega)).drew
    replace k3 := ((k3.apart g 0 (.int .i64 q) (by omega)).apart g 1 (.int .i64 p) (by omega)).drew
    replace hW : Below w.heap.size w (((w3.setCell ⟨g, 0, none⟩ (.int .i64 q)).setCell ⟨g, 1, none⟩ (.int .i64 p)).drew) := blwT
    skip
    have hA : ((cs.setIfInBounds 0 (.int .i64 q)).setIfInBounds 1 (.int .i64 p))[0]? = some (.int .i64 q) := by rw [Array.getElem?_setIfInBounds_ne (by omega), Array.getElem?_setIfInBounds_self_of_lt hs0]
    have hB : ((cs.setIfInBounds 0 (.int .i64 q)).setIfInBounds 1 (.int .i64 p))[1]? = some (.int .i64 p) := by rw [Array.getElem?_setIfInBounds_self_of_lt (by rw [Array.size_setIfInBounds]; exact hs1)]
    clear c1' f1 c2 f2 cp cq fg hG0 hG1 hs0 hs1
    generalize (cs.setIfInBounds 0 (Value.int .i64 q)).setIfInBounds 1 (Value.int .i64 p) = cs2 at *
    generalize ((w3.setCell ⟨g, 0, none⟩ (.int .i64 q)).setCell ⟨g, 1, none⟩ (.int .i64 p)).drew = w4 at *
    have c1' := k1.cell
    have f1 := k1.free
    have c2 := k3.cell
    have f2 := k3.free
    go_wp2
    refine bodyPost_ret (v := .agg #[.int .i64 kind, .slice (some ⟨g, 0, none⟩) 2 cap1, .int .i64 wd, .int .i64 len]) (by simp [results, Tryz.results63, go_sem, *]) rfl ⟨_, rfl, ?_, blwT⟩
    refine .inr ⟨g, cap1, cs2, rfl, by omega, hcap, hmax, blkT, ?_⟩
    rw [E1.out, E2.out]
    intro i x hx
    match i, hx with
    | 0, hx => obtain rfl := Option.some.inj hx; exact hA
    | 1, hx => obtain rfl := Option.some.inj hx; exact hB
    | (_ + 2), hx => simp at hx
  · have hd : decide (q < p) = false := decide_eq_false hpq
    have e1 : min p q = p := by omega
    have e2 : max p q = q := by omega
    have E1 := Lib.hid e1
    have E2 := Lib.hid e2
    clear e1 e2 hpq
    go_wp2
    go_quiet (fail)
    go_wp2
    refine bodyPost_ret (v := .agg #[.int .i64 kind, .slice (some ⟨g, 0, none⟩) 2 cap1, .int .i64 wd, .int .i64 len]) (by simp [results, Tryz.results63, go_sem, *]) rfl ⟨_, rfl, ?_, blwT⟩
    refine .inr ⟨g, cap1, cs, rfl, by omega, hcap, hmax, blkT, ?_⟩
    rw [E1.out, E2.out]
    intro i x hx
    match i, hx with
    | 0, hx => obtain rfl := Option.some.inj hx; exact hG0
    | 1, hx => obtain rfl := Option.some.inj hx; exact hG1
    | (_ + 2), hx => simp at hx
set_option maxRecDepth 100000 in
set_option maxHeartbeats 4000000 in
theorem implNorm_three (kind wd len : Int) (sv : Value) (r p q : Int) (w : World) (h : IntSl w sv [r, p, q]) (hk : pinc kind = 3) :
    Calls Tryz.prog 63 #[.agg #[.int .i64 kind, sv, .int .i64 wd, .int .i64 len]] w fun e w' => ∃ v, e = .returned (.agg #[.int .i64 kind, v, .int .i64 wd, .int .i64 len]) ∧ OwnI w' w.heap.size v [r, min p q, max p q] ∧ Below w.heap.size w w' := by
  have HC := Lib.hid (fun w h => copyDevice_any kind wd len sv [r, p, q] w h (by simp))
  have h1 := h.by (((Below.refl _ w).alloc (Nat.le_refl _) (.cells #[.int .i64 kind, sv, .int .i64 wd, .int .i64 len] 62)).alloc (by simp) (.cells #[.int .i64 0, .slice none 0 0, .int .i64 0, .int .i64 0] 62))
  rcases h with ⟨_, _, _, h2⟩ | ⟨b, off, cap, hsv, h2, h3, h4⟩
  · simp at h2
  simp only [List.length_cons, List.length_nil, Nat.zero_add, Nat.reduceAdd] at hsv h2
  subst hsv
  clear h4
  have HP := Lib.hid (fun w => pinCount_any kind w)
  rw [hk] at HP
  clear hk
  go_enter Tryz.func63, Tryz.ntmps63
  go_wp2_with fail
  refine (HC.out _ h1).mono ?_
  rintro e w1 ⟨v, rfl, hO, hb1⟩
  clear h1
  have k0 : Blk w1 w.heap.size #[.int .i64 kind, .slice (some ⟨b, off, none⟩) 3 cap, .int .i64 wd, .int .i64 len] 62 := blkT
  have k1 : Blk w1 (w.heap.size + 1) #[.int .i64 0, .slice none 0 0, .int .i64 0, .int .i64 0] 62 := blkT
  have hW : Below w.heap.size w w1 := blwT
  clear hb1
  have c0 := k0.cell
  have f0 := k0.free
  have l0 := k0.lt
  have c1' := k1.cell
  have f1 := k1.free
  have l1 := k1.lt
  rcases hO with ⟨_, _, _, hO⟩ | ⟨g, cap1, cs, hv, hlo, hcap, hmax, hG, hG'⟩
  · simp at hO
  simp only [List.length_cons, List.length_nil, Nat.zero_add, Nat.reduceAdd] at hv hcap
  subst hv
  simp at hlo
  have hgp := hG.lt
  replace hG := hG.past (.cells #[.int .i64 kind, .slice (some ⟨g, 0, none⟩) 3 cap1, .int .i64 wd, .int .i64 len] 62)
  go_wp2_with fail
  refine (HP.out _).mono ?_
  rintro e w2 ⟨rfl, rfl⟩
  have k3 : Blk (w1.alloc (.cells #[.int .i64 kind, .slice (some ⟨g, 0, none⟩) 3 cap1, .int .i64 wd, .int .i64 len] 62)) w1.heap.size #[.int .i64 kind, .slice (some ⟨g, 0, none⟩) 3 cap1, .int .i64 wd, .int .i64 len] 62 := Blk.new _ rfl
  replace k0 := k0.past (.cells #[.int .i64 kind, .slice (some ⟨g, 0, none⟩) 3 cap1, .int .i64 wd, .int .i64 len] 62)
  replace k1 := k1.past (.cells #[.int .i64 kind, .slice (some ⟨g, 0, none⟩) 3 cap1, .int .i64 wd, .int .i64 len] 62)
  replace hW := below_al hW (.cells #[.int .i64 kind, .slice (some ⟨g, 0, none⟩) 3 cap1, .int .i64 wd, .int .i64 len] 62)
  clear c0 f0 l0 c1' f1
  generalize w1.heap.size = px at *
  generalize w1.alloc (.cells #[.int .i64 kind, .slice (some ⟨g, 0, none⟩) 3 cap1, .int .i64 wd, .int .i64 len] 62) = w2 at *
  have c0 := k0.cell
  have c1' := k1.cell
  have f1 := k1.free
  have c2 := k3.cell
  have f2 := k3.free
  have hR := hG' 0 r rfl
  have hG0 := hG' 1 p rfl
  have hG1 := hG' 2 q rfl
  have cg := hG.cell
  have fg := hG.free
  have cp : w2.cell? ⟨g, 1, none⟩ = some (.int .i64 p) := (hG.cell 1).trans hG0
  have cq : w2.cell? ⟨g, 2, none⟩ = some (.int .i64 q) := (hG.cell 2).trans hG1
  have wr0 : IntKind.i64.wrap 0 = 0 := by decide
  have wr1 : IntKind.i64.wrap 1 = 1 := by decide
  have wr2 : IntKind.i64.wrap 2 = 2 := by decide
  clear hG'
  by_cases hpq : q < p
  · have hd : decide (q < p) = true := decide_eq_true hpq
    go_wp2
    go_quiet (fail)
    have e1 : min p q = q := by omega
    have e2 : max p q = p := by omega
    have E1 := Lib.hid e1
    have E2 := Lib.hid e2
    clear e1 e2 hpq
    go_wp2_with fail
    replace hG := hG.drewN nq
    replace k1 := k1.drewN nq
    replace k3 := k3.drewN nq
    replace hW := below_drewN hW nq
    clear c0 c1' f1 c2 f2 cg fg cp cq k0
    generalize w2.drewN nq = w3 at *
    have c1' := k1.cell
    have f1 := k1.free
    have c2 := k3.cell
    have f2 := k3.free
    have cp : w3.cell? ⟨g, 1, none⟩ = some (.int .i64 p) := (hG.cell 1).trans hG0
    have cq : w3.cell? ⟨g, 2, none⟩ = some (.int .i64 q) := (hG.cell 2).trans hG1
    have fg := hG.free
    go_region
    have hs0 : 1 < cs.size := by rcases Nat.lt_or_ge 1 cs.size with h | h; exact h; (rw [Array.getElem?_eq_none h] at hG0; cases hG0)
    have hs1 : 2 < cs.size := by rcases Nat.lt_or_ge 2 cs.size with h | h; exact h; (rw [Array.getElem?_eq_none h] at hG1; cases hG1)
    replace hG : Blk (((w3.setCell ⟨g, 1, none⟩ (.int .i64 q)).setCell ⟨g, 2, none⟩ (.int .i64 p)).drew) g ((cs.setIfInBounds 1 (.int .i64 q)).setIfInBounds 2 (.int .i64 p)) 2 := ((hG.set 1 (.int .i64 q)).set 2 (.int .i64 p)).drew
    replace k1 := ((k1.apart g 1 (.int .i64 q) (by omega)).apart g 2 (.int .i64 p) (by omega)).drew
    replace k3 := ((k3.apart g 1 (.int .i64 q) (by omega)).apart g 2 (.int .i64 p) (by omega)).drew
    replace hW : Below w.heap.size w (((w3.setCell ⟨g, 1, none⟩ (.int .i64 q)).setCell ⟨g, 2, none⟩ (.int .i64 p)).drew) := blwT
    replace hR : ((cs.setIfInBounds 1 (.int .i64 q)).setIfInBounds 2 (.int .i64 p))[0]? = some (.int .i64 r) := by rw [Array.getElem?_setIfInBounds_ne (by omega), Array.getElem?_setIfInBounds_ne (by omega)]; exact hR
    have hA : ((cs.setIfInBounds 1 (.int .i64 q)).setIfInBounds 2 (.int .i64 p))[1]? = some (.int .i64 q) := by rw [Array.getElem?_setIfInBounds_ne (by omega), Array.getElem?_setIfInBounds_self_of_lt hs0]
    have hB : ((cs.setIfInBounds 1 (.int .i64 q)).setIfInBounds 2 (.int .i64 p))[2]? = some (.int .i64 p) := by rw [Array.getElem?_setIfInBounds_self_of_lt (by rw [Array.size_setIfInBounds]; exact hs1)]
    clear c1' f1 c2 f2 cp cq fg hG0 hG1 hs0 hs1
    generalize (cs.setIfInBounds 1 (Value.int .i64 q)).setIfInBounds 2 (Value.int .i64 p) = cs2 at *
    generalize ((w3.setCell ⟨g, 1, none⟩ (.int .i64 q)).setCell ⟨g, 2, none⟩ (.int .i64 p)).drew = w4 at *
    have c1' := k1.cell
    have f1 := k1.free
    have c2 := k3.cell
    have f2 := k3.free
    go_wp2
    refine bodyPost_ret (v := .agg #[.int .i64 kind, .slice (some ⟨g, 0, none⟩) 3 cap1, .int .i64 wd, .int .i64 len]) (by simp [results, Tryz.results63, go_sem, *]) rfl ⟨_, rfl, ?_, blwT⟩
    refine .inr ⟨g, cap1, cs2, rfl, by omega, hcap, hmax, blkT, ?_⟩
    rw [E1.out, E2.out]
    intro i x hx
    match i, hx with
    | 0, hx => obtain rfl := Option.some.inj hx; exact hR
    | 1, hx => obtain rfl := Option.some.inj hx; exact hA
    | 2, hx => obtain rfl := Option.some.inj hx; exact hB
    | (_ + 3), hx => simp at hx
  · have hd : decide (q < p) = false := decide_eq_false hpq
    have e1 : min p q = p := by omega
    have e2 : max p q = q := by omega
    have E1 := Lib.hid e1
    have E2 := Lib.hid e2
    clear e1 e2 hpq
    go_wp2
    go_quiet (fail)
    go_wp2
    refine bodyPost_ret (v := .agg #[.int .i64 kind, .slice (some ⟨g, 0, none⟩) 3 cap1, .int .i64 wd, .int .i64 len]) (by simp [results, Tryz.results63, go_sem, *]) rfl ⟨_, rfl, ?_, blwT⟩
    refine .inr ⟨g, cap1, cs, rfl, by omega, hcap, hmax, blkT, ?_⟩
    rw [E1.out, E2.out]
    intro i x hx
    match i, hx with
    | 0, hx => obtain rfl := Option.some.inj hx; exact hR
    | 1, hx => obtain rfl := Option.some.inj hx; exact hG0
    | 2, hx => obtain rfl := Option.some.inj hx; exact hG1
    | (_ + 3), hx => simp at hx
/- The program's NormalizeDevice: one contract. -/
theorem implNorm_any (kind wd len : Int) (sv : Value) (zs : List Int) (w : World) (h : IntSl w sv zs) (hn : zs.length ≤ 1048576) :
    Calls Tryz.prog 63 #[.agg #[.int .i64 kind, sv, .int .i64 wd, .int .i64 len]] w fun e w' => ∃ v, e = .returned (.agg #[.int .i64 kind, v, .int .i64 wd, .int .i64 len]) ∧ OwnI w' w.heap.size v (normz kind zs) ∧ Below w.heap.size w w' := by
  by_cases hs : 0 < pinc kind ∧ (zs.length : Int) = pinc kind
  · rcases normz_yes hs with ⟨p, q, rfl, hk, e⟩ | ⟨r, p, q, rfl, hk, e⟩
    · rw [e]; exact implNorm_two kind wd len sv p q w h hk
    · rw [e]; exact implNorm_three kind wd len sv r p q w h hk
  · rw [normz_no hs]; exact implNorm_no kind wd len sv zs w h hn hs
set_option maxRecDepth 100000 in
set_option maxHeartbeats 2000000 in
theorem moved_any (x : Dv) (names : List Int) (sx sn : Value) (w : World) (h : IntSl w sx x.pins) (hn : IntSl w sn names) (hxl : x.pins.length ≤ 3) (hxn : x.pins ≠ []) (hxp : ∀ z ∈ x.pins, 0 ≤ z ∧ z < names.length) :
    Calls Tryz.prog 120 #[.agg #[.int .i64 x.kind, sx, .int .i64 x.wd, .int .i64 x.len], sn] w fun e w' => ∃ v, e = .returned (.agg #[.int .i64 x.kind, v, .int .i64 x.wd, .int .i64 x.len]) ∧ IntSl w' v (x.pins.map (nmOf names)) ∧ Below w.heap.size w w' := by
  have HN := Lib.hid hn
  have HX := Lib.hid h
  have HCD := Lib.hid (fun w h => own_any x.kind x.wd x.len sx x.pins w h (by omega))
  have HXN := Lib.hid hxn
  have HXP := Lib.hid hxp
  obtain ⟨ax, cx, rfl⟩ := h.len
  obtain ⟨an, cn, rfl⟩ := hn.len
  clear h hn hxn hxp
  go_enter Tryz.func120, Tryz.ntmps120
  go_wp2_with fail
  refine (HCD.out _ (HX.out.by blwT)).mono ?_
  rintro e w1 ⟨v1, rfl, hOI, hb1⟩
  obtain ⟨fb, hf1, hf2, hOR⟩ := hOI.pin HXN.out
  obtain ⟨gb, capb, csb, rfl, hgb, hcb, hmb, kB0, HIC0⟩ := hOR.cells HXN.out
  have hgf : gb = fb := by omega
  subst hgf
  have kZ : Blk w1 (w.heap.size + 1) #[.int .i64 0, .slice none 0 0, .int .i64 0, .int .i64 0] 62 := blkT
  have hb : Below w.heap.size w w1 := blwT
  have HICH := Lib.hid HIC0
  have hbs := hb1.size
  simp only [World.size_alloc] at hbs hf1
  have lZ := kZ.lt
  obtain ⟨Q, hQ⟩ : ∃ Q, w1.heap.size = Q := ⟨_, rfl⟩
  have HQ := Lib.hid hQ
  have hQl : w.heap.size + 1 < Q := by omega
  have hgQ : gb < Q := by omega
  clear hb1 hOI hOR HIC0 hQ
  go_wp2
  rw [HQ.out]
  have hIC : ICs csb (renTo names x.pins 0) := by rw [renTo_zero]; exact HICH.out
  obtain ⟨wA, hwA⟩ : ∃ wA, wA = w1.alloc (.cells #[.int .i64 x.kind, .slice (some ⟨gb, 0, none⟩) x.pins.length capb, .int .i64 x.wd, .int .i64 x.len] 62) := ⟨_, rfl⟩
  have kD : Blk wA Q #[.int .i64 x.kind, .slice (some ⟨gb, 0, none⟩) x.pins.length capb, .int .i64 x.wd, .int .i64 x.len] 62 := by rw [hwA]; exact Blk.new _ HQ.out.symm
  have kBA : Blk wA gb csb 2 := by rw [hwA]; exact kB0.past _
  have kZA : Blk wA (w.heap.size + 1) #[.int .i64 0, .slice none 0 0, .int .i64 0, .int .i64 0] 62 := by rw [hwA]; exact kZ.past _
  have hbA : Below w.heap.size w wA := by rw [hwA]; exact below_al hb _
  rw [← hwA]
  clear hwA HICH kB0 kZ hb lZ hbs
  go_loopw [6] (fun i wr2 => ∃ m : Nat, m ≤ x.pins.length ∧ i = .int .i64 m ∧ Blk wr2 Q #[.int .i64 x.kind, .slice (some ⟨gb, 0, none⟩) x.pins.length capb, .int .i64 x.wd, .int .i64 x.len] 62 ∧ (∃ cs, Blk wr2 gb cs 2 ∧ Hid (ICs cs (renTo names x.pins m))) ∧ Within gb (gb + 1) wA wr2) (fun i _ => x.pins.length - (intOf i).toNat)
  case atStart => exact ⟨0, Nat.zero_le _, rfl, kD, ⟨csb, kBA, Lib.hid hIC⟩, Within.refl _ _ _⟩
  case round =>
    clear kD kBA hIC
    obtain ⟨m, hm, rfl, kD, ⟨cs, kB, HIC⟩, hW2⟩ := hrel
    have cD := kD.cell
    by_cases hlt2 : m < x.pins.length
    · obtain ⟨z, hz⟩ : ∃ z, x.pins[m]? = some z := ⟨x.pins[m], List.getElem?_eq_getElem hlt2⟩
      obtain ⟨hz0, hz1⟩ := HXP.out z (List.mem_of_getElem? hz)
      have cB := kB.cell
      have fB := kB.free
      have cz := HIC.out m z (renTo_get names x.pins m z hz)
      have hNw := HN.out.by (hW2.below hbA (by omega))
      obtain ⟨q, rfl⟩ : ∃ q : Nat, z = q := ⟨z.toNat, by omega⟩
      rcases hNw with ⟨_, _, _, h2⟩ | ⟨nb, noff, ncap, hen, _, _, hcn⟩
      · rw [h2] at hz1; simp at hz1; omega
      obtain ⟨rfl, rfl⟩ : an = some ⟨nb, noff, none⟩ ∧ cn = ncap := by simpa using hen
      have hq : q < names.length := by omega
      have cn := hcn q names[q] (List.getElem?_eq_getElem hq)
      have hnm : nmOf names (q : Int) = names[q] := by simp [nmOf, hq]
      have HZ := Lib.hid hz
      have HNMq := Lib.hid hnm
      generalize names[q] = y at *
      have j1 : (0 : Int) ≤ (m : Int) := by omega
      have j2 : (m : Int) < (x.pins.length : Int) := by omega
      clear hz hnm hen hcn hq
      go_wp2_with fail
      go_region
      all_goals go_wp2_with fail
      exact ⟨⟨m + 1, by omega, by go_num, (kD.apart gb m _ (by omega)).drew, ⟨cs.setIfInBounds m (.int .i64 y), (kB.set m _).drew, Lib.hid (by rw [← renTo_step names x.pins m q HZ.out, HNMq.out]; exact HIC.out.set m y)⟩, (hW2.set gb m _ (Nat.le_refl _) (by omega)).drewN 1⟩, by simp [intOf]; omega⟩
    · obtain rfl : m = x.pins.length := by omega
      have hIC1 : ICs cs (x.pins.map (nmOf names)) := by have := HIC.out; rwa [renTo_all] at this
      have hOR0 := hIC1.own kB (by rw [List.length_map]; exact hcb) hmb
      rw [List.length_map] at hOR0
      have kZ2 := hW2.blk kZA (by omega)
      have hb2 := hW2.below hbA (by omega)
      have HOR := Lib.hid hOR0
      have qZ := kZ2.cell
      have fZ := kZ2.free
      have lZ := kZ2.lt
      clear hIC1 hOR0 HIC
      go_wp2
      refine bodyPost_ret (v := .agg #[.int .i64 x.kind, .slice (some ⟨gb, 0, none⟩) x.pins.length capb, .int .i64 x.wd, .int .i64 x.len]) (by simp [results, Tryz.results120, go_sem, *]) rfl ⟨_, rfl, ?_, blwT⟩
      exact (((((HOR.out.past (Within.off _) (by omega)).past (Within.off _) (by omega)).past (Within.off _) (by omega)).past (Within.off _) (by omega)) : OwnR _ gb (gb + 1) _ _).sl
set_option maxRecDepth 100000 in
set_option maxHeartbeats 2000000 in
theorem mappedO_any (x : Dv) (names : List Int) (sx sn : Value) (w : World) (h : IntSl w sx x.pins) (hn : IntSl w sn names) (hxl : x.pins.length ≤ 3) (hxn : x.pins ≠ []) (hxp : ∀ z ∈ x.pins, 0 ≤ z ∧ z < names.length) :
    Calls Tryz.prog 67 #[.agg #[.int .i64 x.kind, sx, .int .i64 x.wd, .int .i64 x.len], sn] w fun e w' => ∃ v, e = .returned (.agg #[.int .i64 x.kind, v, .int .i64 x.wd, .int .i64 x.len]) ∧ OwnI w' w.heap.size v (normz x.kind (x.pins.map (nmOf names))) ∧ Below w.heap.size w w' := by
  have HN := Lib.hid hn
  have HX := Lib.hid h
  have HCD := Lib.hid (fun w h => copyDevice_any x.kind x.wd x.len sx x.pins w h (by omega))
  have HXN := Lib.hid hxn
  have HXP := Lib.hid hxp
  have HNM := Lib.hid (fun sv w h => implNorm_any x.kind x.wd x.len sv (x.pins.map (nmOf names)) w h (by simp; omega))
  generalize normz x.kind (x.pins.map (nmOf names)) = NZ at *
  obtain ⟨ax, cx, rfl⟩ := h.len
  obtain ⟨an, cn, rfl⟩ := hn.len
  clear h hn hxn hxp
  go_enter Tryz.func67, Tryz.ntmps67
  go_wp2_with fail
  refine (HCD.out _ (HX.out.by blwT)).mono ?_
  rintro e w1 ⟨v1, rfl, hOI, hb1⟩
  obtain ⟨fb, hf1, hf2, hOR⟩ := hOI.pin HXN.out
  obtain ⟨gb, capb, csb, rfl, hgb, hcb, hmb, kB0, HIC0⟩ := hOR.cells HXN.out
  have hgf : gb = fb := by omega
  subst hgf
  have kZ : Blk w1 (w.heap.size + 1) #[.int .i64 0, .slice none 0 0, .int .i64 0, .int .i64 0] 62 := blkT
  have hb : Below w.heap.size w w1 := blwT
  have HICH := Lib.hid HIC0
  have hbs := hb1.size
  simp only [World.size_alloc] at hbs hf1
  have lZ := kZ.lt
  obtain ⟨Q, hQ⟩ : ∃ Q, w1.heap.size = Q := ⟨_, rfl⟩
  have HQ := Lib.hid hQ
  have hQl : w.heap.size + 1 < Q := by omega
  have hgQ : gb < Q := by omega
  clear hb1 hOI hOR HIC0 hQ
  go_wp2
  rw [HQ.out]
  have hIC : ICs csb (renTo names x.pins 0) := by rw [renTo_zero]; exact HICH.out
  obtain ⟨wA, hwA⟩ : ∃ wA, wA = w1.alloc (.cells #[.int .i64 x.kind, .slice (some ⟨gb, 0, none⟩) x.pins.length capb, .int .i64 x.wd, .int .i64 x.len] 62) := ⟨_, rfl⟩
  have kD : Blk wA Q #[.int .i64 x.kind, .slice (some ⟨gb, 0, none⟩) x.pins.length capb, .int .i64 x.wd, .int .i64 x.len] 62 := by rw [hwA]; exact Blk.new _ HQ.out.symm
  have kBA : Blk wA gb csb 2 := by rw [hwA]; exact kB0.past _
  have kZA : Blk wA (w.heap.size + 1) #[.int .i64 0, .slice none 0 0, .int .i64 0, .int .i64 0] 62 := by rw [hwA]; exact kZ.past _
  have hbA : Below w.heap.size w wA := by rw [hwA]; exact below_al hb _
  rw [← hwA]
  clear hwA HICH kB0 kZ hb lZ hbs
  go_loopw [13] (fun i wr2 => ∃ m : Nat, m ≤ x.pins.length ∧ i = .int .i64 m ∧ Blk wr2 Q #[.int .i64 x.kind, .slice (some ⟨gb, 0, none⟩) x.pins.length capb, .int .i64 x.wd, .int .i64 x.len] 62 ∧ (∃ cs, Blk wr2 gb cs 2 ∧ Hid (ICs cs (renTo names x.pins m))) ∧ Within gb (gb + 1) wA wr2) (fun i _ => x.pins.length - (intOf i).toNat)
  case atStart => exact ⟨0, Nat.zero_le _, rfl, kD, ⟨csb, kBA, Lib.hid hIC⟩, Within.refl _ _ _⟩
  case round =>
    clear kD kBA hIC
    obtain ⟨m, hm, rfl, kD, ⟨cs, kB, HIC⟩, hW2⟩ := hrel
    have cD := kD.cell
    by_cases hlt2 : m < x.pins.length
    · obtain ⟨z, hz⟩ : ∃ z, x.pins[m]? = some z := ⟨x.pins[m], List.getElem?_eq_getElem hlt2⟩
      obtain ⟨hz0, hz1⟩ := HXP.out z (List.mem_of_getElem? hz)
      have cB := kB.cell
      have fB := kB.free
      have cz := HIC.out m z (renTo_get names x.pins m z hz)
      have hNw := HN.out.by (hW2.below hbA (by omega))
      obtain ⟨q, rfl⟩ : ∃ q : Nat, z = q := ⟨z.toNat, by omega⟩
      rcases hNw with ⟨_, _, _, h2⟩ | ⟨nb, noff, ncap, hen, _, _, hcn⟩
      · rw [h2] at hz1; simp at hz1; omega
      obtain ⟨rfl, rfl⟩ : an = some ⟨nb, noff, none⟩ ∧ cn = ncap := by simpa using hen
      have hq : q < names.length := by omega
      have cn := hcn q names[q] (List.getElem?_eq_getElem hq)
      have hnm : nmOf names (q : Int) = names[q] := by simp [nmOf, hq]
      have HZ := Lib.hid hz
      have HNMq := Lib.hid hnm
      generalize names[q] = y at *
      have j1 : (0 : Int) ≤ (m : Int) := by omega
      have j2 : (m : Int) < (x.pins.length : Int) := by omega
      clear hz hnm hen hcn hq
      go_wp2_with fail
      go_region
      all_goals go_wp2_with fail
      exact ⟨⟨m + 1, by omega, by go_num, (kD.apart gb m _ (by omega)).drew, ⟨cs.setIfInBounds m (.int .i64 y), (kB.set m _).drew, Lib.hid (by rw [← renTo_step names x.pins m q HZ.out, HNMq.out]; exact HIC.out.set m y)⟩, (hW2.set gb m _ (Nat.le_refl _) (by omega)).drewN 1⟩, by simp [intOf]; omega⟩
    · obtain rfl : m = x.pins.length := by omega
      have hIC1 : ICs cs (x.pins.map (nmOf names)) := by have := HIC.out; rwa [renTo_all] at this
      have hOR0 := hIC1.own kB (by rw [List.length_map]; exact hcb) hmb
      rw [List.length_map] at hOR0
      have kZ2 := hW2.blk kZA (by omega)
      have hb2 := hW2.below hbA (by omega)
      have HOS := Lib.hid hOR0.sl
      have hZg := kZ2.lt
      clear hIC1 hOR0 HIC
      go_wp2_with fail
      refine (HNM.out _ _ HOS.out).mono ?_
      rintro e w3 ⟨v3, rfl, hO3, hb3⟩
      replace kZ2 := Blk.by hb3 kZ2
      have hb4 := below_on hb3 hb2
      obtain ⟨a3, c3, rfl⟩ := hO3.len
      have HO3 := Lib.hid hO3
      have qZ := kZ2.cell
      have fZ := kZ2.free
      have lZ := kZ2.lt
      have sW := hW2.size
      clear hO3 cD
      go_wp2
      refine bodyPost_ret (v := .agg #[.int .i64 x.kind, .slice a3 NZ.length c3, .int .i64 x.wd, .int .i64 x.len]) (by simp [results, Tryz.results67, go_sem, *]) rfl ⟨_, rfl, ?_, blwT⟩
      refine OwnI.low (lo := wr.heap.size) ?_ (by omega)
      repeat (first | (with_reducible exact HO3.out) | ((with_reducible refine OwnI.apart ?_ _ _ _ ?_); rotate_left; focus omega))
set_option maxRecDepth 100000 in
set_option maxHeartbeats 2000000 in
theorem fits1_any (M U q n p B : Nat) (na nb : Int) (A1 A2 B1 B2 C1 C2 D1 D2 DB NV Y PA PB : Value) (nets : List Int) (w : World) (kB : w.cell? ⟨B, 0, none⟩ = some (.pointer (some ⟨M, 0, none⟩))) (kM : w.cell? ⟨M, 12, none⟩ = some (.slice (some ⟨U, 0, none⟩) n n)) (hU : UsedB w U n nets) (hp : p < n) (hn : n ≤ 1000) :
    Calls Tryz.prog 159 #[.int .i64 (p : Int), .pointer (some ⟨B, 0, none⟩)] w fun e w' => e = .returned (.bool (!nets.contains (p : Int))) ∧ w' = w := by
  obtain ⟨cU, fU, lU⟩ := hU.cell hp
  obtain ⟨R, hR⟩ : ∃ R, nets.contains (p : Int) = R := ⟨_, rfl⟩
  rw [hR] at cU ⊢
  have i1 : (p : Int) < (n : Int) := by omega
  have i2 : decide (p < n) = true := decide_eq_true hp
  clear hU hR fU
  go_enter Tryz.func159, Tryz.ntmps159
  go_wp2
  go_ret
  exact ⟨rfl, rfl⟩
set_option maxRecDepth 100000 in
set_option maxHeartbeats 2000000 in
theorem fits2_any (W : World) (x y : Dv) (sx sy : Value) (hx : IntSl W sx x.pins) (hy : IntSl W sy y.pins) :
    Calls Tryz.prog 162 #[.agg #[.int .i64 x.kind, sx, .int .i64 x.wd, .int .i64 x.len], .agg #[.int .i64 y.kind, sy, .int .i64 y.wd, .int .i64 y.len]] W fun e w' => e = .returned (.bool (decide (x = y))) ∧ Below W.heap.size W w' := by
  have HC := Lib.hid (fun W h h' => compareDevices_any x.kind x.wd x.len y.kind y.wd y.len sx sy x.pins y.pins W h h')
  have HX := Lib.hid hx
  have HY := Lib.hid hy
  have HD := Lib.hid (show decide (x = y) = decide (devcmp x.kind y.kind x.pins y.pins x.wd y.wd x.len y.len = 0) from decide_eq_decide.2 dcf_zero.symm)
  generalize devcmp x.kind y.kind x.pins y.pins x.wd y.wd x.len y.len = R at *
  generalize decide (x = y) = D at *
  obtain ⟨kx, xs, wx, ox⟩ := x
  obtain ⟨ky, ys, wy, oy⟩ := y
  dsimp only at *
  obtain ⟨a, c, rfl⟩ := hx.len
  obtain ⟨a', c', rfl⟩ := hy.len
  generalize xs.length = n1 at *
  generalize ys.length = n2 at *
  clear hx hy
  go_enter Tryz.func162, Tryz.ntmps162
  go_wp2_with fail
  refine (HC.out _ (HX.out.by blwT) (HY.out.by blwT)).mono ?_
  rintro e w1 ⟨rfl, hb1⟩
  go_wp2
  go_ret
  exact ⟨ret_bool (by rw [HD.out, Bool.eq_iff_iff]; simp), blwT⟩
theorem Tr.map_push (L : List Tr) (x : Tr) : (L ++ [x]).map (·.1) = L.map (·.1) ++ [x.1] := by simp
set_option maxRecDepth 100000 in
set_option maxHeartbeats 16000000 in
theorem fits_any (x y : Nl) (nets : List Int) (M U q lo hi m : Nat) (na nb : Int) (A1 A2 B1 B2 C1 C2 D1 D2 DB NV Y PA PB : Value) (w : World) (kM : Blk w M #[.int .i64 na, A1, A2, .int .i64 nb, B1, B2, C1, C2, D1, D2, DB, NV, .slice (some ⟨U, 0, none⟩) q q, Y, PA, PB] 127) (hA : DvSl w A1 x.ds) (hDB : OwnDs w lo hi DB (y.ds.map nzD)) (hhi : hi ≤ w.heap.size) (hN : IntSl w NV nets) (hm : nets.length = m) (hU : UsedB w U q nets)
    (hx : ∀ d ∈ x.ds, 2 ≤ d.pins.length ∧ d.pins.length ≤ 3 ∧ ∀ p ∈ d.pins, 0 ≤ p) (hy : ∀ d ∈ y.ds.map nzD, d.pins.length ≤ 3 ∧ ∀ p ∈ d.pins, 0 ≤ p ∧ p < (q : Int)) (hlx : x.ds.length ≤ 10) (hly : y.ds.length ≤ 10) (hmq : m ≤ 24) (hq : q ≤ 24) :
    Calls Tryz.prog 134 #[.pointer (some ⟨M, 0, none⟩)] w fun e w' => e = .returned (.bool (fitI x y nets)) ∧ Below w.heap.size w w' := by
  rw [fitI_eq]
  have hly' : (y.ds.map nzD).length ≤ 10 := by rw [List.length_map]; exact hly
  generalize y.ds.map nzD = es at *
  obtain ⟨nx, ds, ps⟩ := x
  dsimp only at *
  have HA := Lib.hid hA
  have HDB := Lib.hid hDB
  have HN := Lib.hid hN
  have HU := Lib.hid hU
  have HXP := Lib.hid hx
  have HYP := Lib.hid hy
  obtain ⟨a1, c1, rfl⟩ := hA.sized
  obtain ⟨db, dc, rfl⟩ := hDB.sl.sized
  obtain ⟨an, cn, rfl⟩ := hN.len
  obtain ⟨l1, hl1⟩ : ∃ l, ds.length = l := ⟨_, rfl⟩
  obtain ⟨l2, hl2⟩ : ∃ l, es.length = l := ⟨_, rfl⟩
  rw [hm] at kM HN
  rw [hl1] at kM HA hlx ⊢
  rw [hl2] at kM HDB hly' ⊢
  have HL1 := Lib.hid hl1
  have HL2 := Lib.hid hl2
  have HM := Lib.hid hm
  have HMS := Lib.hid (fun k d h => @mpTo_step ds nets k d h)
  have HOS := Lib.hid (fun k d h => @owTo_step es nets k d h)
  have HML := Lib.hid (mpTo_len ds nets)
  have HOL := Lib.hid (owTo_len es nets)
  have HM0 := Lib.hid (show mpTo ds nets 0 = [] from rfl)
  have HO0 := Lib.hid (show owTo es nets 0 = [] from rfl)
  have HMP := Lib.hid (fun (d : Dv) sx w (h : IntSl w sx d.pins) hn a b c => mappedO_any d nets sx (.slice an m cn) w h hn a b c)
  have HMX := Lib.hid (fun sv zs w h a b => max_any sv zs w h a b)
  have HLB := Lib.hid (fun (d : Dv) (z : Int) a b => @lowB_max nets.length d z a b)
  rw [hm] at HLB HMS
  have HAM := Lib.hid (fun d => amB_any nets d)
  have egc : ∀ args w, (callFunc 159 args).run Tryz.prog w = .ok (.enter 159 args) w := enters_of Tryz.func159 (by kernel_rfl) rfl
  have HCF := Lib.hid (fun B (w : World) sv (zs : List Int) (h : IntSl w sv zs) (kB : w.cell? ⟨B, 0, none⟩ = some (.pointer (some ⟨M, 0, none⟩))) (kM : w.cell? ⟨M, 12, none⟩ = some (.slice (some ⟨U, 0, none⟩) q q)) (hU : UsedB w U q nets) (hz : ∀ z ∈ zs, 0 ≤ z ∧ z < (q : Int)) =>
    containsFuncI_any 159 #[.pointer (some ⟨B, 0, none⟩)] egc (fun z => !nets.contains z) sv zs w h (fun W z hb hz' => by
      obtain ⟨z0, z1⟩ := hz z hz'
      obtain ⟨zn, rfl⟩ : ∃ zn : Nat, z = zn := ⟨z.toNat, by omega⟩
      show Calls Tryz.prog 159 #[.int .i64 (zn : Int), .pointer (some ⟨B, 0, none⟩)] W _
      refine (fits1_any M U q q zn B na nb (.slice a1 l1 c1) A2 B1 B2 C1 C2 D1 D2 (.slice db l2 dc) (.slice an m cn) Y PA PB nets W (cell_by' hb kB) (cell_by' hb kM) (hU.by hb) (by omega) (by omega)).mono ?_
      rintro e w' ⟨rfl, rfl⟩
      exact ⟨rfl, Below.refl _ _⟩))
  have HSF := Lib.hid (fun g n c L w h hn => sortFuncD_any 62 #[] (fun _ _ => rfl) dcmp_impl g n c L w h hn)
  have HEF := Lib.hid (fun xs ys s1 s2 w h h' a b => equalFuncD_any 162 #[] (enters_of Tryz.func162 (by kernel_rfl) rfl) xs ys s1 s2 w h h' a b (fun W x y sx sy hx hy => fits2_any W x y sx sy hx hy))
  have hmf : ∀ (fn : Fn) (first cap : Array Value) (w : World), (Instr.makeFunc fn first cap).run Tryz.prog w = .ok (.func fn first cap) w := fun _ _ _ _ => rfl
  have HHI := Lib.hid hhi
  clear hA hDB hN hU hx hy hl1 hl2 hm hly egc hhi
  have kM0 : Blk ((w.alloc (.cells #[.pointer (some ⟨M, 0, none⟩)] 123)).alloc (.cells #[] 62)) M #[.int .i64 na, .slice a1 l1 c1, A2, .int .i64 nb, B1, B2, C1, C2, D1, D2, .slice db l2 dc, .slice an m cn, .slice (some ⟨U, 0, none⟩) q q, Y, PA, PB] 127 := (kM.past _).past _
  have kB0 : Blk ((w.alloc (.cells #[.pointer (some ⟨M, 0, none⟩)] 123)).alloc (.cells #[] 62)) w.heap.size #[.pointer (some ⟨M, 0, none⟩)] 123 := (Blk.new _ rfl).past _
  have kR0 : RB ((w.alloc (.cells #[.pointer (some ⟨M, 0, none⟩)] 123)).alloc (.cells #[] 62)) (w.heap.size + 1) 0 0 [] := RB.lit (Blk.new _ (by simp))
  have hM := kM.lt
  have cM := kM.cell
  go_enter Tryz.func134, Tryz.ntmps134
  go_wp2
  clear cM
  go_loopw [4, 23] (fun ov iv wr => ∃ (k g n c : Nat) (L : List Tr), k ≤ l1 ∧ ov = .slice (some ⟨g, 0, none⟩) n c ∧ iv = .int .i64 (k : Int) ∧ Hid (RB wr g n c L) ∧ n ≤ k ∧ Hid (L.map (·.1) = mpTo ds nets k) ∧ w.heap.size < g ∧ g < wr.heap.size ∧ Blk wr w.heap.size #[.pointer (some ⟨M, 0, none⟩)] 123 ∧ Below w.heap.size w wr) (fun _ iv _ => l1 - (intOf iv).toNat)
  case atStart => exact ⟨0, w.heap.size + 1, 0, 0, [], Nat.zero_le _, rfl, rfl, Lib.hid kR0, Nat.le_refl _, Lib.hid HM0.out.symm, by omega, by simp, kB0, blwT⟩
  case round =>
    clear kM0 kB0 kR0
    obtain ⟨k, g, n, c, L, hk, rfl, rfl, HR, hnk, HL, hg, hgs, kB, hb⟩ := hrel
    have kMr := Blk.by hb kM
    by_cases hlt : k < l1
    · obtain ⟨d, hd⟩ : ∃ d, ds[k]? = some d := ⟨_, List.getElem?_eq_getElem (by rw [HL1.out]; exact hlt)⟩
      have hdp := HXP.out d (List.mem_of_getElem? hd)
      have HST := Lib.hid (HMS.out k d hd)
      rcases HA.out with ⟨_, _, _, h2⟩ | ⟨xb, xo, xc, he, _, _, h4⟩
      · rw [h2] at hd; simp at hd
      obtain ⟨rfl, rfl⟩ : a1 = some ⟨xb, xo, none⟩ ∧ c1 = xc := by
        simp only [Value.slice.injEq] at he
        exact ⟨he.1, he.2.2⟩
      obtain ⟨sx, x1, x2, x3, x4, x5⟩ := (h4 k d hd).by hb
      obtain ⟨px, cx, rfl⟩ := x5.len
      have HDP := Lib.hid hdp
      have HX5 := Lib.hid x5
      have HLBD := Lib.hid (fun z => HLB.out d z)
      obtain ⟨kd, pins, wd, ln⟩ := d
      dsimp only at *
      obtain ⟨P, hP⟩ : ∃ P, pins.length = P := ⟨_, rfl⟩
      rw [hP] at x2 HX5
      have HPL := Lib.hid hP
      have i1 : (k : Int) < (l1 : Int) := by omega
      have i2 : decide (k < l1) = true := decide_eq_true hlt
      have lx := lt_of_cell x1
      dsimp only at lx
      have cB := kB.cell
      have lB := kB.lt
      have cMr := kMr.cell
      have lMr := kMr.lt
      clear hd he h4 x5 hP hdp
      have hl3 : P ≤ 3 := by have := HDP.out.2.1; rw [HPL.out] at this; exact this
      go_wp2_with fail
      refine (HMX.out _ _ _ (HX5.out.by blwT) (fun e => by have h := HPL.out; have h' := HDP.out.1; rw [e] at h'; simp at h') (by rw [HPL.out]; omega)).mono ?_
      rintro e w1 ⟨mx, rfl, hm1, hm2, rfl⟩
      have HB1 := Lib.hid (HLBD.out mx hm1 hm2)
      have HLW := Lib.hid (show mx ≤ (m : Int) - 1 → ∀ z ∈ pins, 0 ≤ z ∧ z < (m : Int) from fun h z hz => by
        have h1 := hm2 z hz
        have h2 := HDP.out.2.2 z hz
        exact ⟨h2, by omega⟩)
      obtain ⟨wE, hwE⟩ : ∃ z : World, z = wr.alloc (.cells #[.int .i64 kd, .slice px P cx, .int .i64 wd, .int .i64 ln] 62) := ⟨_, rfl⟩
      have kD : Blk wE wr.heap.size #[.int .i64 kd, .slice px P cx, .int .i64 wd, .int .i64 ln] 62 := by rw [hwE]; exact Blk.new _ rfl
      have hbE : Below wr.heap.size wr wE := by rw [hwE]; exact (Below.refl _ wr).alloc (Nat.le_refl _) _
      have hsE : wr.heap.size < wE.heap.size := by rw [hwE]; simp
      (try rw [← hwE])
      have kBE := Blk.by hbE kB
      have kME := Blk.by hbE kMr
      have HRE := Lib.hid (HR.out.by hbE)
      have hbEw := below_on hbE hb
      clear hwE hm1 hm2 x1 x2 x3 x4 lx cB lB cMr lMr HMX
      by_cases hmx : mx ≤ (m : Int) - 1
      · have HB2 := HB1.out
        rw [decide_eq_true hmx] at HB2
        rw [HB2, if_pos rfl] at HST
        have HLW2 := Lib.hid (HLW.out hmx)
        clear HB2 HLW HLBD HB1
        go_upto_region 7 with fail
        have hS : (fun w' : World => Blk w' wr.heap.size #[.int .i64 kd, .slice px P cx, .int .i64 wd, .int .i64 ln] 62 ∧ Blk w' w.heap.size #[.pointer (some ⟨M, 0, none⟩)] 123 ∧ Blk w' M #[.int .i64 na, .slice (some ⟨xb, xo, none⟩) l1 c1, A2, .int .i64 nb, B1, B2, C1, C2, D1, D2, .slice db l2 dc, .slice an m cn, .slice (some ⟨U, 0, none⟩) q q, Y, PA, PB] 127) { wE with drawn := wE.drawn + 1 } := ⟨kD.drew, kBE.drew, kME.drew⟩
        refine wp_region_any (by kernel_rfl) (wpAny_of_E (S := fun w' : World => Blk w' wr.heap.size #[.int .i64 kd, .slice px P cx, .int .i64 wd, .int .i64 ln] 62 ∧ Blk w' w.heap.size #[.pointer (some ⟨M, 0, none⟩)] 123 ∧ Blk w' M #[.int .i64 na, .slice (some ⟨xb, xo, none⟩) l1 c1, A2, .int .i64 nb, B1, B2, C1, C2, D1, D2, .slice db l2 dc, .slice an m cn, .slice (some ⟨U, 0, none⟩) q q, Y, PA, PB] 127) (l := 9) _ _ _ _ ?_)
        change wpAnyE _ _ _ _ _ _ _ _ _ wE.drew
        refine wpAnyE_takeL (i := 0) (v := ?_) rfl (by kernel_rfl) (fun _ _ _ h => h) (Or.inl ⟨by rfl, ?_⟩) hS ?_
        rotate_left
        · intro w hSw; (try dsimp only at hSw); have qD := hSw.1.cell; have qB := hSw.2.1.cell; have qM := hSw.2.2.cell; have lD := hSw.1.lt; have lB := hSw.2.1.lt; have lM := hSw.2.2.lt; clear hSw; go_simp; (try with_reducible rfl)
        try simp only [Act.put, List.setIfInBounds_toArray, List.set_cons_zero, List.set_cons_succ]
        refine wpAnyE_takeL (i := 1) (v := ?_) rfl (by kernel_rfl) (fun _ _ _ h => h) (Or.inl ⟨by rfl, ?_⟩) hS ?_
        rotate_left
        · intro w hSw; (try dsimp only at hSw); have qD := hSw.1.cell; have qB := hSw.2.1.cell; have qM := hSw.2.2.cell; have lD := hSw.1.lt; have lB := hSw.2.1.lt; have lM := hSw.2.2.lt; clear hSw; go_simp; (try with_reducible rfl)
        try simp only [Act.put, List.setIfInBounds_toArray, List.set_cons_zero, List.set_cons_succ]
        refine wpAnyE_takeL (i := 2) (v := ?_) rfl (by kernel_rfl) (fun _ _ _ h => h) (Or.inl ⟨by rfl, ?_⟩) hS ?_
        rotate_left
        · intro w hSw; (try dsimp only at hSw); have qD := hSw.1.cell; have qB := hSw.2.1.cell; have qM := hSw.2.2.cell; have lD := hSw.1.lt; have lB := hSw.2.1.lt; have lM := hSw.2.2.lt; clear hSw; go_simp; (try with_reducible rfl)
        try simp only [Act.put, List.setIfInBounds_toArray, List.set_cons_zero, List.set_cons_succ]
        refine wpAnyE_takeL (i := 3) (v := ?_) rfl (by kernel_rfl) (fun _ _ _ h => h) (Or.inl ⟨by rfl, ?_⟩) hS ?_
        rotate_left
        · intro w hSw; (try dsimp only at hSw); have qD := hSw.1.cell; have qB := hSw.2.1.cell; have qM := hSw.2.2.cell; have lD := hSw.1.lt; have lB := hSw.2.1.lt; have lM := hSw.2.2.lt; clear hSw; go_simp; (try with_reducible rfl)
        try simp only [Act.put, List.setIfInBounds_toArray, List.set_cons_zero, List.set_cons_succ]
        refine wpAnyE_takeL (i := 4) (v := ?_) rfl (by kernel_rfl) (fun _ _ _ h => h) (Or.inl ⟨by rfl, ?_⟩) hS ?_
        rotate_left
        · intro w hSw; (try dsimp only at hSw); have qD := hSw.1.cell; have qB := hSw.2.1.cell; have qM := hSw.2.2.cell; have lD := hSw.1.lt; have lB := hSw.2.1.lt; have lM := hSw.2.2.lt; clear hSw; go_simp; (try with_reducible rfl)
        try simp only [Act.put, List.setIfInBounds_toArray, List.set_cons_zero, List.set_cons_succ]
        refine wpAnyE_takeL (i := 5) (v := ?_) rfl (by kernel_rfl) (fun _ _ _ h => h) (Or.inl ⟨by rfl, ?_⟩) hS ?_
        rotate_left
        · intro w hSw; (try dsimp only at hSw); have qD := hSw.1.cell; have qB := hSw.2.1.cell; have qM := hSw.2.2.cell; have lD := hSw.1.lt; have lB := hSw.2.1.lt; have lM := hSw.2.2.lt; clear hSw; go_simp; (try with_reducible rfl)
        try simp only [Act.put, List.setIfInBounds_toArray, List.set_cons_zero, List.set_cons_succ]
        refine wpAnyE_oneL (k := 6) (by kernel_rfl) rfl (fun K hK => ?_)
        go_simp
        go_at_call 67
        refine (HMP.out ⟨kd, pins, wd, ln⟩ (.slice px P cx) wE.drew ((HX5.out.by hbE).by (below_of_drewN wE 1)) ((HN.out.by hbEw).by (below_of_drewN wE 1)) (by dsimp only; rw [HPL.out]; exact hl3) (fun e => by have h' := HDP.out.1; dsimp only at e; rw [e] at h'; simp at h') (by dsimp only; rw [HM.out]; exact HLW2.out)).mono ?_
        rintro e w3 ⟨v3, rfl, hO3, hb3⟩
        have hb3E : Below wE.heap.size wE w3 := below_on hb3 (below_of_drewN wE 1)
        have kD3 := Blk.by hb3E kD
        have kB3 := Blk.by hb3E kBE
        have kM3 := Blk.by hb3E kME
        have hs3 := hb3E.size
        obtain ⟨f, hf1, hf2, hOf⟩ := OwnI.pin hO3 (fun e => by have h' := congrArg List.length e; rw [length_normz, List.length_map] at h'; dsimp only at h'; have := HDP.out.1; rw [HPL.out] at this h'; simp at h'; omega)
        have hf3 : wE.heap.size ≤ f := hf1
        dsimp only at hOf ⊢
        have HOF := Lib.hid hOf
        clear hS hO3 hOf hb3 hf1
        refine hK.out _ _ (fun _ => ⟨kD3, kB3, kM3⟩) ?_
        try simp only [Act.put, List.setIfInBounds_toArray, List.set_cons_zero, List.set_cons_succ]
        refine wpAnyE_oneL (k := 7) (by kernel_rfl) rfl (fun K hK => ?_)
        go_simp
        have kZ4 : Blk (w3.alloc (.cells #[.int .i64 kd, v3, .int .i64 wd, .int .i64 ln] 62)) w3.heap.size #[.int .i64 kd, v3, .int .i64 wd, .int .i64 ln] 62 := Blk.new _ rfl
        have hb4 : Below w3.heap.size w3 (w3.alloc (.cells #[.int .i64 kd, v3, .int .i64 wd, .int .i64 ln] 62)) := (Below.refl _ w3).alloc (Nat.le_refl _) _
        have hs4 : w3.heap.size < (w3.alloc (.cells #[.int .i64 kd, v3, .int .i64 wd, .int .i64 ln] 62)).heap.size := by simp
        have kD4 := Blk.by hb4 kD3
        have kB4 := Blk.by hb4 kB3
        have kM4 := Blk.by hb4 kM3
        have HOF4 := Lib.hid (OwnR.by hb4 HOF.out)
        have HR4 := Lib.hid ((HRE.out.by hb3E).by hb4)
        have hb4w := below_on hb4 (below_on hb3E hbEw)
        obtain ⟨Z4, hZ4⟩ : ∃ Z, w3.heap.size = Z := ⟨_, rfl⟩
        rw [hZ4] at kZ4 hs4 hs3 hf2 ⊢
        clear HOF hb4 hb3E kD3 kB3 kM3
        generalize w3.alloc (.cells #[.int .i64 kd, v3, .int .i64 wd, .int .i64 ln] 62) = w4 at *
        refine hK.out _ _ (fun _ => ⟨kD4, kB4, kM4⟩) ?_
        try simp only [Act.put, List.setIfInBounds_toArray, List.set_cons_zero, List.set_cons_succ]
        refine wpAnyE_oneL (k := 8) (by kernel_rfl) rfl (fun K hK => ?_)
        refine step_pushR (by rfl) _ _ (by rfl) g n c L (by rfl) HR4.out Z4 ⟨kd, normz kd (pins.map (nmOf nets)), wd, ln⟩ v3 f (by rfl) kZ4 HOF4.out (by omega) (by omega) (by omega) ?_
        intro g5 c5 w5 hR5 hgr hg5
        have hE5 := grown_exc hgr
        have kD5 := hE5.blk kD4 (show ¬ wr.heap.size = g by omega)
        have kB5 := hE5.blk kB4 (show ¬ w.heap.size = g by omega)
        have kM5 := hE5.blk kM4 (show ¬ M = g by omega)
        have hb5w : Below w.heap.size w w5 := hE5.below hb4w (fun q hq (e : q = g) => by omega)
        have hs5 := hE5.size
        have HR5 := Lib.hid hR5
        have hg5' : w.heap.size < g5 ∧ g5 < w5.heap.size := ⟨by omega, hR5.2.2.1⟩
        clear hR5 hgr hE5 kD4 kB4 kM4 hb4w
        refine hK.out _ _ (fun _ => ⟨kD5, kB5, kM5⟩) ?_
        try simp only [Act.put, List.setIfInBounds_toArray, List.set_cons_zero, List.set_cons_succ]
        refine wpAnyE_oneL (k := 9) (by kernel_rfl) rfl (fun K hK => ?_)
        go_simp
        refine hK.out _ _ (fun h => absurd rfl h) ?_
        refine wpAnyE_done (by kernel_rfl) ?_ _
        clear HR4 HRE HOF4
        go_wp2
        exact ⟨⟨k + 1, g5, n + 1, c5, L ++ [(⟨kd, normz kd (pins.map (nmOf nets)), wd, ln⟩, v3, f)], by omega, by rfl, by go_num, HR5, by omega, Lib.hid (by rw [HST.out, Tr.map_push, HL.out]; rfl), hg5'.1, hg5'.2, kB5, hb5w⟩, by simp [intOf]; omega⟩
      · have HB2 := HB1.out
        rw [decide_eq_false hmx] at HB2
        rw [HB2, if_neg (by simp), List.append_nil] at HST
        have hmx' : (m : Int) - 1 < mx := by omega
        clear HB2 HLW HLBD HB1
        go_wp2
        exact ⟨⟨k + 1, g, n, c, L, by omega, by rfl, by go_num, HRE, by omega, Lib.hid (by rw [HST.out]; exact HL.out), by omega, by omega, kBE, hbEw⟩, by simp [intOf]; omega⟩
    · obtain rfl : l1 = k := by omega
      have i1 : ¬ (l1 : Int) < (l1 : Int) := by omega
      have cB := kB.cell
      have lB := kB.lt
      have cMr := kMr.cell
      have lMr := kMr.lt
      have hnl : n ≤ 10 := by omega
      obtain ⟨wo, rfl⟩ : ∃ z : World, z = wr := ⟨_, rfl⟩
      have kR20 : RB (wo.alloc (.cells #[] 62)) wo.heap.size 0 0 [] := RB.lit (Blk.new _ rfl)
      have hLw : ∀ t ∈ L, t.2.2 < wo.heap.size := fun t ht => (HR.out.2.2.2 t ht).2.1
      have HLW := Lib.hid hLw
      clear hLw
      go_wp2
      clear cB lB cMr lMr
      go_loopw [7, 48] (fun ov iv wr => ∃ (k g2 n2 c2 : Nat) (L2 : List Tr), k ≤ l2 ∧ ov = .slice (some ⟨g2, 0, none⟩) n2 c2 ∧ iv = .int .i64 (k : Int) ∧ Hid (RB wr g2 n2 c2 L2) ∧ n2 ≤ k ∧ Hid (L2.map (·.1) = owTo es nets k) ∧ wo.heap.size ≤ g2 ∧ g2 < wr.heap.size ∧ Hid (∀ t ∈ L2, t.2.2 < w.heap.size) ∧ Blk wr w.heap.size #[.pointer (some ⟨M, 0, none⟩)] 123 ∧ Below wo.heap.size wo wr) (fun _ iv _ => l2 - (intOf iv).toNat)
      case atStart => exact ⟨0, wo.heap.size, 0, 0, [], Nat.zero_le _, rfl, rfl, Lib.hid kR20, Nat.le_refl _, Lib.hid HO0.out.symm, Nat.le_refl _, by simp, Lib.hid (by simp), kB.past _, blwT⟩
      case round =>
        clear kR20 kB kMr
        obtain ⟨k, g2, n2, c2, L2, hk, rfl, rfl, HR2, hnk2, HL2', hg2, hgs2, HT2, kB, hbo⟩ := hrel
        have hbw := below_on hbo hb
        have kMr := Blk.by hbw kM
        by_cases hlt : k < l2
        · obtain ⟨d, hd⟩ : ∃ d, es[k]? = some d := ⟨_, List.getElem?_eq_getElem (by rw [HL2.out]; exact hlt)⟩
          have hdp := HYP.out d (List.mem_of_getElem? hd)
          have HST := Lib.hid (HOS.out k d hd)
          obtain ⟨gd, gc, f, pv, hex, lx, x1, x2, x3, x4, hOR, hf1, hf2⟩ := OwnDs.atE (HDB.out.by hbw) hd
          obtain ⟨rfl, rfl⟩ : db = some ⟨gd, 0, none⟩ ∧ dc = gc := by
            simp only [Value.slice.injEq] at hex
            exact ⟨hex.1, hex.2.2⟩
          have hfw : f < w.heap.size := by have := HHI.out; omega
          have HAMD := Lib.hid (HAM.out d)
          have HDP := Lib.hid hdp
          have HOR := Lib.hid hOR
          obtain ⟨px, cx, rfl⟩ := hOR.sl.len
          obtain ⟨kd, pins, wd, ln⟩ := d
          dsimp only at *
          obtain ⟨P, hP⟩ : ∃ P, pins.length = P := ⟨_, rfl⟩
          rw [hP] at x2 HOR
          have HPL := Lib.hid hP
          have i1 : (k : Int) < (l2 : Int) := by omega
          have i2 : decide (k < l2) = true := decide_eq_true hlt
          have cB := kB.cell
          have lB := kB.lt
          obtain ⟨AB, hAB⟩ : ∃ A, amB nets ⟨kd, pins, wd, ln⟩ = A := ⟨_, rfl⟩
          rw [hAB] at HAMD HST
          clear hd hex hP hdp hOR hAB
          go_wp2_with fail
          obtain ⟨wE, hwE⟩ : ∃ z : World, z = wr.alloc (.cells #[.int .i64 kd, .slice px P cx, .int .i64 wd, .int .i64 ln] 62) := ⟨_, rfl⟩
          have kD : Blk wE wr.heap.size #[.int .i64 kd, .slice px P cx, .int .i64 wd, .int .i64 ln] 62 := by rw [hwE]; exact Blk.new _ rfl
          have hbE : Below wr.heap.size wr wE := by rw [hwE]; exact (Below.refl _ wr).alloc (Nat.le_refl _) _
          have hsE : wr.heap.size < wE.heap.size := by rw [hwE]; simp
          (try rw [← hwE])
          have kBE := Blk.by hbE kB
          have kME := Blk.by hbE kMr
          have HRE := Lib.hid (HR2.out.by hbE)
          have hbEo := below_on hbE hbo
          have hbEw := below_on hbE hbw
          have HORE := Lib.hid (OwnR.by hbE HOR.out)
          clear hwE x1 x2 x3 x4 cB lB HOR
          refine (HCF.out w.heap.size wE (.slice px P cx) pins HORE.out.sl (kBE.cell 0) (kME.cell 12) (HU.out.by hbEw) HDP.out.2).mono ?_
          rintro e w1 ⟨rfl, hb1⟩
          rw [HAMD.out]
          have kD1 := Blk.by hb1 kD
          have kB1 := Blk.by hb1 kBE
          have HR1 := Lib.hid (HRE.out.by hb1)
          have HOR1 := Lib.hid (OwnR.by hb1 HORE.out)
          have hb1o := below_on hb1 hbEo
          have hs1 := hb1.size
          have qD := kD1.cell
          have lD := kD1.lt
          clear hb1 kD kBE kME HRE HORE hbEo hbEw hbE
          cases AB with
          | true =>
            rw [if_pos rfl] at HST
            have kZ2 : Blk (w1.alloc (.cells #[.int .i64 kd, .slice px P cx, .int .i64 wd, .int .i64 ln] 62)) w1.heap.size #[.int .i64 kd, .slice px P cx, .int .i64 wd, .int .i64 ln] 62 := Blk.new _ rfl
            have hb2 : Below w1.heap.size w1 (w1.alloc (.cells #[.int .i64 kd, .slice px P cx, .int .i64 wd, .int .i64 ln] 62)) := (Below.refl _ w1).alloc (Nat.le_refl _) _
            have HR2b := Lib.hid (HR1.out.by hb2)
            have HOR2 := Lib.hid (OwnR.by hb2 HOR1.out)
            have kB2 := Blk.by hb2 kB1
            have hb2o := below_on hb2 hb1o
            have hso := hbo.size
            have hsw := hb.size
            go_wp2_with (refine list_pushR (by rfl) _ _ (by rfl) g2 n2 c2 L2 (by rfl) HR2b.out w1.heap.size ⟨kd, pins, wd, ln⟩ (.slice px P cx) f (by rfl) kZ2 HOR2.out (by simp; omega) (by omega) (by omega) ?_; intro g5 c5 w5 hR5 hgr hg5; have hE5 := grown_exc hgr; have kB5 := hE5.blk kB2 (show ¬ w.heap.size = g2 by omega); have hb5o : Below wo.heap.size wo w5 := hE5.below hb2o (fun q hq (e : q = g2) => by omega); have HR5 := Lib.hid hR5; have hg5' : wo.heap.size ≤ g5 ∧ g5 < w5.heap.size := ⟨by (try simp only [World.size_alloc] at hg5); omega, hR5.2.2.1⟩; clear hR5 hgr hE5)
            exact ⟨⟨k + 1, g5, n2 + 1, c5, L2 ++ [(⟨kd, pins, wd, ln⟩, .slice px P cx, f)], by omega, by rfl, by go_num, HR5, by omega, Lib.hid (by rw [HST.out, Tr.map_push, HL2'.out]), hg5'.1, hg5'.2, Lib.hid (fun t ht => by
              rcases List.mem_append.1 ht with ht | ht
              · exact HT2.out t ht
              · rw [List.mem_singleton] at ht; rw [ht]; exact hfw), kB5, hb5o⟩, by simp [intOf]; omega⟩
          | false =>
            rw [if_neg (by simp), List.append_nil] at HST
            go_wp2
            exact ⟨⟨k + 1, g2, n2, c2, L2, by omega, by rfl, by go_num, HR1, by omega, Lib.hid (by rw [HST.out]; exact HL2'.out), by omega, by omega, HT2, kB1, hb1o⟩, by simp [intOf]; omega⟩
        · obtain rfl : l2 = k := by omega
          have i1 : ¬ (l2 : Int) < (l2 : Int) := by omega
          have hso := hbo.size
          have hsw := hb.size
          have HRz := Lib.hid (HR.out.by hbo)
          obtain ⟨_, _, hnc1, hcm1, _⟩ := HR.out.cells
          obtain ⟨_, _, hnc2, hcm2, _⟩ := HR2.out.cells
          go_wp2_with fail
          refine (HSF.out g n c L _ HRz.out (by omega)).mono ?_
          rintro e w1 ⟨rfl, ⟨d1, hD1, hz1, hm1, hp1⟩, hW1⟩
          have hE1 : Exc (fun k => k = g) wr w1 := Exc.ofWithin hW1 (fun q h1 h2 => by omega)
          have HR3 := Lib.hid (RB.exc hE1 HR2.out (show ¬ g2 = g by omega) (fun t ht (e : t.2.2 = g) => by have := HT2.out t ht; omega))
          have hb1o : Below wo.heap.size wo w1 → True := fun _ => trivial
          have hb1w : Below w.heap.size w w1 := hE1.below hbw (fun q hq (e : q = g) => by omega)
          have HD1 := Lib.hid hD1
          have HZ1 := Lib.hid hz1
          have HM1 := Lib.hid hm1
          have HP1 := Lib.hid hp1
          clear hD1 hz1 hm1 hp1 hW1 hE1 hb1o
          go_wp2_with fail
          refine (HSF.out g2 n2 c2 L2 _ HR3.out (by omega)).mono ?_
          rintro e w2 ⟨rfl, ⟨d2, hD2, hz2, hm2, hp2⟩, hW2⟩
          have hE2 : Exc (fun k => k = g2) w1 w2 := Exc.ofWithin hW2 (fun q h1 h2 => by omega)
          have hD1 := DRow.exc hE2 HD1.out (show ¬ g = g2 by omega) (fun q hq (e : q = g2) => by
            obtain ⟨t, ht, e2⟩ := List.mem_map.1 (HP1.out q hq)
            have := HLW.out t ht
            (try dsimp only at e2)
            omega)
          have hb2w : Below w.heap.size w w2 := hE2.below hb1w (fun q hq (e : q = g2) => by omega)
          have hS1 := hD1.sl (cap := c) (by rw [HZ1.out]; exact hnc1) hcm1
          have hS2 := hD2.sl (cap := c2) (by rw [hz2]; exact hnc2) hcm2
          rw [HZ1.out, HM1.out] at hS1
          rw [hz2, hm2] at hS2
          have HS1 := Lib.hid hS1
          have HS2 := Lib.hid hS2
          clear hE2 hD1 hS1 hS2 hD2 hz2 hm2 hp2 hW2
          go_wp2_with fail
          refine (HEF.out _ _ _ _ _ HS1.out HS2.out (by rw [length_srtD, List.length_map, HR.out.2.1]; omega) (by rw [length_srtD, List.length_map, HR2.out.2.1]; omega)).mono ?_
          rintro e w3 ⟨rfl, hb3⟩
          have hb3w := below_on hb3 hb2w
          go_wp2
          go_ret
          exact ⟨ret_bool (by rw [HL.out, HL2'.out]), hb3w⟩
end Go.Proofs.YtifbffianbgeaaaGreat
