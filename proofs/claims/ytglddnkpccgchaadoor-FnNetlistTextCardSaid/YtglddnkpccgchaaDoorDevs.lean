/- Contracts of the functions of package laws over devices. -/
import Derived.Test.YtglddnkpccgchaaDoorBase
namespace Go.Proofs.YtglddnkpccgchaaDoor
open Go.RowKit
set_option linter.unusedVariables false
set_option linter.unusedSimpArgs false

set_option maxRecDepth 100000 in
set_option maxHeartbeats 1000000 in
theorem szDevice_any (kind wd len : Int) (sv : Value) (zs : List Int) (l : Int) (w : World) (h : IntSl w sv zs) (hl : 0 ≤ l) (hl' : l ≤ 1048576) :
    Calls Tryd.prog 54 #[.agg #[.int .i64 kind, sv, .int .i64 wd, .int .i64 len], .int .i64 l] w fun e w' => e = .returned (.int .i64 (if l < zs.length then -1 else l - zs.length)) ∧ Below w.heap.size w w' := by
  obtain ⟨r, hr⟩ : ∃ r : Int, (if l < zs.length then (-1 : Int) else l - zs.length) = r := ⟨_, rfl⟩
  have hsz := szInt64S_any sv zs l
  rw [hr] at hsz
  rw [hr]
  have hr1 : r = -1 ∨ 0 ≤ r := by rw [← hr]; split <;> omega
  have HS := Lib.hid hsz
  have h1 : IntSl (w.alloc (.cells #[.int .i64 kind, sv, .int .i64 wd, .int .i64 len] 84)) sv zs := h.by ((Below.refl _ _).alloc (Nat.le_refl _) _)
  obtain ⟨a, c, rfl⟩ := h.len
  clear hsz hr h
  rcases hr1 with rfl | hr1
  · go_enter Tryd.func54, Tryd.ntmps54
    go_wp2_with fail
    refine (HS.out _ h1 hl hl').mono ?_
    rintro e w' ⟨rfl, rfl⟩
    go_wp2
    go_ret
    exact ⟨rfl, (by ((repeat (first | (with_reducible exact Below.refl _ _) | (with_reducible refine below_drewN ?_ _) | (with_reducible refine Below.drew ?_) | (with_reducible refine below_al ?_ _) | (with_reducible refine below_on (by assumption) ?_) | ((with_reducible refine Below.setCell ?_ ?_ _); rotate_left; focus (first | omega | (simp; done) | (simp; omega))) | (with_reducible assumption))); done))⟩
  · go_enter Tryd.func54, Tryd.ntmps54
    go_wp2_with fail
    refine (HS.out _ h1 hl hl').mono ?_
    rintro e w' ⟨rfl, rfl⟩
    go_wp2
    go_ret
    exact ⟨rfl, (by ((repeat (first | (with_reducible exact Below.refl _ _) | (with_reducible refine below_drewN ?_ _) | (with_reducible refine Below.drew ?_) | (with_reducible refine below_al ?_ _) | (with_reducible refine below_on (by assumption) ?_) | ((with_reducible refine Below.setCell ?_ ?_ _); rotate_left; focus (first | omega | (simp; done) | (simp; omega))) | (with_reducible assumption))); done))⟩

set_option maxRecDepth 100000 in
set_option maxHeartbeats 1000000 in
theorem toDevice_any (kind wd len : Int) (sv : Value) (zs : List Int) (w : World) (h : IntSl w sv zs) (hn : zs.length ≤ 1048576) :
    Calls Tryd.prog 56 #[.agg #[.int .i64 kind, sv, .int .i64 wd, .int .i64 len]] w fun e w' => ∃ g, e = .returned (.agg #[.int .i64 kind, .slice (some ⟨g, 0, none⟩) zs.length zs.length, .int .i64 wd, .int .i64 len]) ∧ IBlk w' g zs ∧ w.heap.size ≤ g ∧ Below w.heap.size w w' := by
  have HT := Lib.hid (fun w h => toInt64S_any sv zs w h hn)
  have h1 := h.by ((((Below.refl _ w).alloc (Nat.le_refl _) (.cells #[.int .i64 kind, sv, .int .i64 wd, .int .i64 len] 84)).alloc (by simp) (.cells #[.int .i64 0, .slice none 0 0, .int .i64 0, .int .i64 0] 52)).alloc (by simp; omega) (.cells #[.int .i64 kind, .slice none 0 0, .int .i64 0, .int .i64 0] 52))
  obtain ⟨a, c, rfl⟩ := h.len
  clear h
  go_enter Tryd.func56, Tryd.ntmps56
  go_wp2_with fail
  refine (HT.out _ h1).mono ?_
  rintro e w1 ⟨g, rfl, hG, hge, hb1⟩
  clear h1
  have k0 : Blk w1 w.heap.size #[.int .i64 kind, .slice a zs.length c, .int .i64 wd, .int .i64 len] 84 := (by ((repeat (first | (with_reducible assumption) | (with_reducible refine Blk.drewN ?_ _) | (with_reducible refine Blk.drew ?_) | ((with_reducible refine Blk.new _ ?_); focus (first | omega | (simp; done) | (simp; omega))) | (with_reducible refine Blk.past ?_ _) | ((with_reducible refine Blk.apart ?_ _ _ _ ?_); rotate_left; focus (first | omega | (simp; done) | (simp; omega))) | (with_reducible refine Blk.by (by assumption) ?_))); done))
  have k1 : Blk w1 (w.heap.size + 1) #[.int .i64 0, .slice none 0 0, .int .i64 0, .int .i64 0] 52 := (by ((repeat (first | (with_reducible assumption) | (with_reducible refine Blk.drewN ?_ _) | (with_reducible refine Blk.drew ?_) | ((with_reducible refine Blk.new _ ?_); focus (first | omega | (simp; done) | (simp; omega))) | (with_reducible refine Blk.past ?_ _) | ((with_reducible refine Blk.apart ?_ _ _ _ ?_); rotate_left; focus (first | omega | (simp; done) | (simp; omega))) | (with_reducible refine Blk.by (by assumption) ?_))); done))
  have k2 : Blk w1 (w.heap.size + 1 + 1) #[.int .i64 kind, .slice none 0 0, .int .i64 0, .int .i64 0] 52 := (by ((repeat (first | (with_reducible assumption) | (with_reducible refine Blk.drewN ?_ _) | (with_reducible refine Blk.drew ?_) | ((with_reducible refine Blk.new _ ?_); focus (first | omega | (simp; done) | (simp; omega))) | (with_reducible refine Blk.past ?_ _) | ((with_reducible refine Blk.apart ?_ _ _ _ ?_); rotate_left; focus (first | omega | (simp; done) | (simp; omega))) | (with_reducible refine Blk.by (by assumption) ?_))); done))
  have c0 := k0.cell
  have c1 := k1.cell
  have f1 := k1.free
  have c2 := k2.cell
  have f2 := k2.free
  simp at hge
  go_wp2
  refine bodyPost_ret (v := .agg #[.int .i64 kind, .slice (some ⟨g, 0, none⟩) zs.length zs.length, .int .i64 wd, .int .i64 len]) (by simp [results, Tryd.results56, go_sem, *]) rfl ⟨g, rfl, ?_, by omega, (by ((repeat (first | (with_reducible exact Below.refl _ _) | (with_reducible refine below_drewN ?_ _) | (with_reducible refine Below.drew ?_) | (with_reducible refine below_al ?_ _) | (with_reducible refine below_on (by assumption) ?_) | ((with_reducible refine Below.setCell ?_ ?_ _); rotate_left; focus (first | omega | (simp; done) | (simp; omega))) | (with_reducible assumption))); done))⟩
  repeat (first | (with_reducible exact hG) | ((with_reducible refine IBlk.apart ?_ _ _ _ ?_); rotate_left; focus omega))

set_option maxRecDepth 100000 in
set_option maxHeartbeats 1000000 in
theorem eqDevice_refl (kind wd len : Int) (s1 s2 : Value) (zs : List Int) (w : World) (h : IntSl w s1 zs) (h' : IntSl w s2 zs) :
    Calls Tryd.prog 62 #[.agg #[.int .i64 kind, s1, .int .i64 wd, .int .i64 len], .agg #[.int .i64 kind, s2, .int .i64 wd, .int .i64 len]] w fun e w' => e = .returned (.bool true) ∧ Below w.heap.size w w' := by
  have HT := Lib.hid (fun w h h' => eqInt64S_refl s1 s2 zs w h h')
  have hw := (((Below.refl _ w).alloc (Nat.le_refl _) (.cells #[.int .i64 kind, s1, .int .i64 wd, .int .i64 len] 52)).alloc (by simp) (.cells #[.int .i64 kind, s2, .int .i64 wd, .int .i64 len] 52))
  have h1 := h.by hw
  have h2 := h'.by hw
  obtain ⟨a, c, rfl⟩ := h.len
  obtain ⟨a', c', rfl⟩ := h'.len
  clear h h' hw
  go_enter Tryd.func62, Tryd.ntmps62
  go_wp2_with fail
  refine (HT.out _ h1 h2).mono ?_
  rintro e w1 ⟨rfl, m, rfl⟩
  go_wp2
  go_ret
  exact ⟨rfl, (by ((repeat (first | (with_reducible exact Below.refl _ _) | (with_reducible refine below_drewN ?_ _) | (with_reducible refine Below.drew ?_) | (with_reducible refine below_al ?_ _) | (with_reducible refine below_on (by assumption) ?_) | ((with_reducible refine Below.setCell ?_ ?_ _); rotate_left; focus (first | omega | (simp; done) | (simp; omega))) | (with_reducible assumption))); done))⟩
end Go.Proofs.YtglddnkpccgchaaDoor

/- The opener of a device that came in. -/
namespace Go.Proofs.YtglddnkpccgchaaDoor
open Go.ChangeShapes Go.WideShapes Go.ChangeAt Go.RowKit Go.Joins Go.Deep

theorem addr_add (b off i : Nat) : (⟨b, off, none⟩ : Addr).add i = ⟨b, off + i, none⟩ := by
  by_cases h : i = 0 <;> simp [Addr.add, h]
/-- A device of package laws that came in, by value: kind, pins, width, length. -/
def IsDevV (W : World) (v : Value) (x : Int × List Int × Int × Int) : Prop :=
  ∃ sv, v = .agg #[.int .i64 x.1, sv, .int .i64 x.2.2.1, .int .i64 x.2.2.2] ∧ IntSl W sv x.2.1 ∧ (Fits x.1 ∧ Fits x.2.2.1 ∧ Fits x.2.2.2 ∧ ∀ z ∈ x.2.1, Fits z)
theorem cellsDev : Tryd.prog.cellsOf 84 = 4 := by kernel_rfl

section
variable {H : Type} {enc : TypeId × Value → H} {W : World} {base : Nat} {spare : Nat → Bool} {held : Bool}
/-- A cell that reads as a slice of int64. -/
theorem ints_of_cell {fuel : Nat} {c : Value} {y : DataW H × List MemPlace} (h : DataW.trod enc Tryd.prog W base spare held fuel 50 [c] = some y) : ∃ zs : List Int, IntSl W c zs ∧ ∀ z ∈ zs, Fits z := by
  rcases open_ints Tryd.underlying50 Tryd.underlying2 (by kernel_rfl) h with ⟨hcs, _⟩ | ⟨x, len, cap, zs, hcs, _, hl, hm, hz, _, hcell, hwz⟩
  · simp at hcs
    subst hcs
    exact ⟨[], .inl ⟨_, _, rfl, rfl⟩, by simp⟩
  · simp at hcs
    subst hcs
    by_cases h0 : len = 0
    · subst h0
      exact ⟨[], .inl ⟨_, _, rfl, rfl⟩, by simp⟩
    · obtain ⟨b, off, spot⟩ := x
      have hzl : len ≤ zs.length := by rw [hz]; split <;> omega
      have hspot : spot = none := by simpa [Addr.add] using World.cell?_spot (hcell 0 (by omega))
      subst hspot
      refine ⟨zs.take len, .inr ⟨b, off, cap, by rw [List.length_take, Nat.min_eq_left hzl], by rw [List.length_take, Nat.min_eq_left hzl]; exact hl, hm, fun i x hx => ?_⟩, ?_⟩
      · have hi : i < len := by
          have := (List.getElem?_eq_some_iff.1 hx).1
          rw [List.length_take] at this; omega
        rw [List.getElem?_take_of_lt hi] at hx
        have hc := hcell i (by omega)
        rw [addr_add, List.getD_eq_getElem?_getD, hx] at hc
        exact hc
      · intro z hz
        exact bounds_i64 (hwz z (List.mem_of_mem_take hz))
end

set_option maxRecDepth 100000 in
theorem opened_dev {H : Type} {enc : TypeId × Value → H} {W : World} {base b0 : Nat} {r : Reach} {spare : Nat → Bool} {held : Bool} {v : Value} {d : DataW H} {p : List MemPlace}
    (hv : Value.okWide Tryd.prog W r b0 84 v) (h : DataW.Trod enc Tryd.prog W base spare held 84 v d p) : ∃ x, IsDevV W v x := by
  obtain ⟨c0, c1, c2, c3, y0, y1, y2, y3, m, rfl, rfl, rfl, hy0, hy1, hy2, hy3⟩ := open_agg4 Tryd.underlying84 (by kernel_rfl) cellsDev hv h
  obtain ⟨a, e0, _, wa⟩ := DataW.trod_int Tryd.underlying2 hy0
  obtain ⟨b, e2, _, wb⟩ := DataW.trod_int Tryd.underlying2 hy2
  obtain ⟨c, e3, _, wc⟩ := DataW.trod_int Tryd.underlying2 hy3
  obtain ⟨zs, hz, hf⟩ := ints_of_cell hy1
  simp at e0 e2 e3
  subst e0 e2 e3
  exact ⟨(a, zs, b, c), c1, rfl, hz, wf_i64 wa, wf_i64 wb, wf_i64 wc, hf⟩
end Go.Proofs.YtglddnkpccgchaaDoor

/- Slices of devices: what a walk knows of one. -/
namespace Go.Proofs.YtglddnkpccgchaaDoor
open Go.RowKit
set_option linter.unusedVariables false
set_option linter.unusedSimpArgs false

/-- A device. -/
structure Dv where
  kind : Int
  pins : List Int
  wd : Int
  len : Int
/-- The four cells of a device. -/
def DvAt (w : World) (g o : Nat) (x : Dv) : Prop :=
  ∃ sv, w.cell? ⟨g, o, none⟩ = some (.int .i64 x.kind) ∧ w.cell? ⟨g, o + 1, none⟩ = some sv ∧ w.cell? ⟨g, o + 2, none⟩ = some (.int .i64 x.wd) ∧ w.cell? ⟨g, o + 3, none⟩ = some (.int .i64 x.len) ∧ IntSl w sv x.pins
/-- A slice that reads as these devices. -/
def DvSl (w : World) (sv : Value) (xs : List Dv) : Prop :=
  (∃ a c, sv = .slice a 0 c ∧ xs = []) ∨ ∃ b off cap, sv = .slice (some ⟨b, off, none⟩) xs.length cap ∧ xs.length ≤ cap ∧ cap ≤ maxLen ∧ ∀ (i : Nat) (x : Dv), xs[i]? = some x → DvAt w b (off + i * 4) x
def Dv.ok (x : Dv) : Prop := Fits x.kind ∧ Fits x.wd ∧ Fits x.len ∧ ∀ z ∈ x.pins, Fits z

theorem DvAt.by {w w1 : World} {g o : Nat} {x : Dv} (hb : Below w.heap.size w w1) (h : DvAt w g o x) : DvAt w1 g o x := by
  obtain ⟨sv, h1, h2, h3, h4, h5⟩ := h
  exact ⟨sv, cell_by' hb h1, cell_by' hb h2, cell_by' hb h3, cell_by' hb h4, h5.by hb⟩
theorem DvSl.by {w w1 : World} {sv : Value} {xs : List Dv} (hb : Below w.heap.size w w1) (h : DvSl w sv xs) : DvSl w1 sv xs := by
  rcases h with h | ⟨b, off, cap, h1, h2, h3, h4⟩
  · exact .inl h
  · exact .inr ⟨b, off, cap, h1, h2, h3, fun i x hx => (h4 i x hx).by hb⟩
theorem DvSl.sized {w : World} {sv : Value} {xs : List Dv} (h : DvSl w sv xs) : ∃ a c, sv = .slice a xs.length c := by
  rcases h with ⟨a, c, h1, h2⟩ | ⟨b, off, cap, h1, _⟩
  · subst h2; exact ⟨a, c, h1⟩
  · exact ⟨_, _, h1⟩

/-- What the pins of the devices take up. -/
def pinsAll : List Dv → Int
  | [] => 0
  | x :: xs => x.pins.length + pinsAll xs
theorem pinsAll_nonneg : ∀ xs : List Dv, 0 ≤ pinsAll xs
  | [] => by simp [pinsAll]
  | x :: xs => by have := pinsAll_nonneg xs; simp only [pinsAll]; omega
theorem pinsAll_take (xs : List Dv) (k : Nat) (x : Dv) (h : xs[k]? = some x) : pinsAll (xs.take (k + 1)) = pinsAll (xs.take k) + x.pins.length := by
  induction xs generalizing k with
  | nil => simp at h
  | cons y ys ih =>
    cases k with
    | zero => simp at h; subst h; simp [pinsAll]
    | succ k =>
      simp at h
      have := ih k h
      simp only [List.take_succ_cons, pinsAll]
      omega
theorem pinsAll_mono (xs : List Dv) (k : Nat) : pinsAll (xs.take k) ≤ pinsAll xs := by
  induction xs generalizing k with
  | nil => simp
  | cons y ys ih =>
    cases k with
    | zero => simp [pinsAll]; have := pinsAll_nonneg ys; omega
    | succ k => have := ih k; simp only [List.take_succ_cons, pinsAll]; omega
end Go.Proofs.YtglddnkpccgchaaDoor

/- The size of a slice of devices. -/
namespace Go.Proofs.YtglddnkpccgchaaDoor
open Go.RowKit
set_option linter.unusedVariables false
set_option linter.unusedSimpArgs false

set_option maxRecDepth 100000 in
set_option maxHeartbeats 2000000 in
theorem szDeviceS_any (sv : Value) (xs : List Dv) (l : Int) (w : World) (h : DvSl w sv xs) (hl : 0 ≤ l) (hl' : l ≤ 1048576) :
    Calls Tryd.prog 21 #[sv, .int .i64 l] w fun e w' => e = .returned (.int .i64 (if l < xs.length + pinsAll xs then -1 else l - xs.length - pinsAll xs)) ∧ Below w.heap.size w w' := by
  obtain ⟨r, hr⟩ : ∃ r : Int, (if l < xs.length + pinsAll xs then (-1 : Int) else l - xs.length - pinsAll xs) = r := ⟨_, rfl⟩
  rw [hr]
  have HR := Lib.hid hr
  clear hr
  have hpn := pinsAll_nonneg xs
  rcases h with ⟨a, c, rfl, rfl⟩ | ⟨b, off, cap, rfl, h2, h3, h4⟩
  · go_enter Tryd.func21, Tryd.ntmps21
    go_wp2
    go_loopw [1, 5] (fun v i wr => i = .int .i64 0 ∧ v = .int .i64 l ∧ wr = w) (fun _ _ _ => 0)
    case atStart => exact ⟨rfl, by simp, rfl⟩
    case round =>
      obtain ⟨rfl, rfl, rfl⟩ := hrel
      go_wp2
      go_ret
      exact ⟨ret_i64 (by rw [← HR.out]; simp [pinsAll]; omega), Below.refl _ _⟩
  · unfold maxLen at h3
    by_cases hbig : l < xs.length
    · clear h4
      go_enter Tryd.func21, Tryd.ntmps21
      go_wp2
      go_ret
      exact ⟨ret_i64 (by rw [← HR.out, if_pos (by omega)]), Below.refl _ _⟩
    · go_enter Tryd.func21, Tryd.ntmps21
      go_wp2
      go_loopw [1, 5] (fun v i wr => ∃ k : Nat, k ≤ xs.length ∧ i = .int .i64 k ∧ (∃ f : Int, v = .int .i64 f ∧ f = l - xs.length - pinsAll (xs.take k) ∧ 0 ≤ f) ∧ Below w.heap.size w wr) (fun _ i _ => xs.length - (intOf i).toNat)
      case atStart => exact ⟨0, Nat.zero_le _, rfl, ⟨_, rfl, by simp [pinsAll], by omega⟩, Below.refl _ _⟩
      case round =>
        obtain ⟨k, hk, rfl, ⟨f, rfl, hf, hf0⟩, hb⟩ := hrel
        by_cases hlt : k < xs.length
        · obtain ⟨x, hx⟩ : ∃ x, xs[k]? = some x := ⟨xs[k], List.getElem?_eq_getElem hlt⟩
          obtain ⟨sv, c1, c2, c3, c4, hS⟩ := (h4 k x hx).by hb
          have HT := Lib.hid (pinsAll_take xs k x hx)
          have HM := Lib.hid (pinsAll_mono xs (k + 1))
          have HK := Lib.hid (pinsAll_nonneg (xs.take k))
          have HF := Lib.hid hf
          have hfl : f ≤ 1048576 := by have := pinsAll_nonneg (xs.take k); omega
          have HZ := Lib.hid (fun w h => szDevice_any x.kind x.wd x.len sv x.pins f w h hf0 hfl)
          obtain ⟨a', c', rfl⟩ := hS.len
          clear h4 hx hf
          have i1 : (0 : Int) ≤ (k : Int) := by omega
          have i2 : (k : Int) < (xs.length : Int) := by omega
          by_cases hsm : f < x.pins.length
          · have HZ' := HZ.out
            simp only [if_pos hsm] at HZ'
            have HZ2 := Lib.hid HZ'
            clear HZ HZ'
            go_wp2_with fail
            refine (HZ2.out _ hS).mono ?_
            rintro e w1 ⟨rfl, hb1⟩
            go_wp2
            go_ret
            refine ⟨ret_i64 ?_, below_on hb1 hb⟩
            rw [← HR.out, if_pos]
            have := HT.out; have := HM.out; have := HF.out; omega
          · have HZ' := HZ.out
            simp only [if_neg hsm] at HZ'
            have HZ2 := Lib.hid HZ'
            clear HZ HZ'
            obtain ⟨f', hf'⟩ : ∃ f' : Int, f - x.pins.length = f' := ⟨_, rfl⟩
            rw [hf'] at HZ2
            have HF' := Lib.hid hf'
            have hf'0 : 0 ≤ f' := by omega
            clear hf' hsm
            go_wp2_with fail
            refine (HZ2.out _ hS).mono ?_
            rintro e w1 ⟨rfl, hb1⟩
            go_wp2
            exact ⟨⟨k + 1, by omega, by go_num, ⟨f', rfl, by have := HT.out; have := HF.out; have := HF'.out; omega, hf'0⟩, below_on hb1 hb⟩, by simp [intOf]; omega⟩
        · obtain rfl : k = xs.length := by omega
          rw [List.take_length] at hf
          go_wp2
          go_ret
          exact ⟨ret_i64 (by rw [← HR.out, if_neg (by omega)]; exact hf), hb⟩
end Go.Proofs.YtglddnkpccgchaaDoor

/- toDeviceS: a slice of devices of the call's own. -/
namespace Go.Proofs.YtglddnkpccgchaaDoor
open Go.RowKit
set_option linter.unusedVariables false
set_option linter.unusedSimpArgs false

/-- Element i of an array of cells. -/
def Cs4 (cs : Array Value) (i : Nat) (a b c d : Value) : Prop := cs[i * 4]? = some a ∧ cs[i * 4 + 1]? = some b ∧ cs[i * 4 + 2]? = some c ∧ cs[i * 4 + 3]? = some d
def put4 (cs : Array Value) (i : Nat) (a b c d : Value) : Array Value := (((cs.setIfInBounds (i * 4) a).setIfInBounds (i * 4 + 1) b).setIfInBounds (i * 4 + 2) c).setIfInBounds (i * 4 + 3) d
theorem size_put4 (cs : Array Value) (i : Nat) (a b c d : Value) : (put4 cs i a b c d).size = cs.size := by simp [put4]
theorem put4_same (cs : Array Value) (i : Nat) (a b c d : Value) (h : i * 4 + 4 ≤ cs.size) : Cs4 (put4 cs i a b c d) i a b c d := by
  refine ⟨?_, ?_, ?_, ?_⟩ <;> simp only [put4, Array.getElem?_setIfInBounds, Array.size_setIfInBounds] <;> repeat (first | rw [if_pos trivial] | rw [if_pos (by omega)] | rw [if_neg (by omega)])
theorem put4_other (cs : Array Value) (i j : Nat) (a b c d a' b' c' d' : Value) (hne : j ≠ i) (h : Cs4 cs j a' b' c' d') : Cs4 (put4 cs i a b c d) j a' b' c' d' := by
  obtain ⟨h1, h2, h3, h4⟩ := h
  refine ⟨?_, ?_, ?_, ?_⟩ <;> simp only [put4, Array.getElem?_setIfInBounds, Array.size_setIfInBounds] <;> (repeat rw [if_neg (by omega)]) <;> assumption

/-- Element i of the block's cells is this device, its pins in a block of their own behind g. -/
def DvIn (w : World) (g : Nat) (cs : Array Value) (i : Nat) (x : Dv) : Prop :=
  ∃ gp, g < gp ∧ IBlk w gp x.pins ∧ Cs4 cs i (.int .i64 x.kind) (.slice (some ⟨gp, 0, none⟩) x.pins.length x.pins.length) (.int .i64 x.wd) (.int .i64 x.len)
theorem DvIn.by {w w1 : World} {g : Nat} {cs : Array Value} {i : Nat} {x : Dv} (hb : Below w.heap.size w w1) (h : DvIn w g cs i x) : DvIn w1 g cs i x := by
  obtain ⟨gp, h1, h2, h3⟩ := h; exact ⟨gp, h1, h2.by hb, h3⟩
theorem DvIn.apart {w : World} {g : Nat} {cs : Array Value} {i : Nat} {x : Dv} (h : DvIn w g cs i x) (b o : Nat) (v : Value) (hb : b ≤ g) : DvIn (w.setCell ⟨b, o, none⟩ v) g cs i x := by
  obtain ⟨gp, h1, h2, h3⟩ := h; exact ⟨gp, h1, h2.apart _ _ _ (by omega), h3⟩
/-- A block of the call's own that holds these devices, and no more. -/
def DvBlk (w : World) (g : Nat) (xs : List Dv) : Prop := ∃ cs : Array Value, Blk w g cs 52 ∧ cs.size = xs.length * 4 ∧ ∀ (i : Nat) (x : Dv), xs[i]? = some x → DvIn w g cs i x
theorem DvBlk.by {w w1 : World} {g : Nat} {xs : List Dv} (hb : Below w.heap.size w w1) (h : DvBlk w g xs) : DvBlk w1 g xs := by
  obtain ⟨cs, h1, h2, h3⟩ := h; exact ⟨cs, Blk.by hb h1, h2, fun i x hx => (h3 i x hx).by hb⟩
theorem DvBlk.lt {w : World} {g : Nat} {xs : List Dv} (h : DvBlk w g xs) : g < w.heap.size := by
  obtain ⟨cs, h1, h2⟩ := h; exact h1.lt
theorem DvBlk.apart {w : World} {g : Nat} {xs : List Dv} (h : DvBlk w g xs) (b o : Nat) (v : Value) (hb : b < g) : DvBlk (w.setCell ⟨b, o, none⟩ v) g xs := by
  obtain ⟨cs, h1, h2, h3⟩ := h; exact ⟨cs, h1.apart b o v (by omega), h2, fun i x hx => (h3 i x hx).apart b o v (by omega)⟩

theorem infoDev : (Tryd.prog.info? 52).map (fun i => (i.zero, i.size, i.bytes)) = some (some (.agg #[.int .i64 0, .slice none 0 0, .int .i64 0, .int .i64 0]), 4, 48) := by kernel_rfl
/-- make([]impl.Device, n). -/
theorem make_dev (n : Nat) (hn : n ≤ 1048576) (w : World) : ∃ cs : Array Value, cs.size = n * 4 ∧ (Instr.makeSlice 28 (.int .i64 n) (.int .i64 n)).run Tryd.prog w = .ok (.slice (some ⟨w.heap.size, 0, none⟩) n n) (w.alloc (.cells cs 52)) := by
  obtain ⟨i0, hi, hz0, hz1, hz2⟩ := info_parts infoDev
  have h := run_make (P := Tryd.prog) w 28 52 i0 _ Tryd.underlying28 hi hz0 .i64 .i64 (n : Int) (n : Int) (by omega) (by omega) (by rw [hz2]; omega) (by omega)
  simp only [Int.toNat_natCast, hz1] at h
  exact ⟨_, size_madeCells _ _, h⟩

set_option maxRecDepth 100000 in
set_option maxHeartbeats 2000000 in
theorem toDeviceS_any (sv : Value) (xs : List Dv) (w : World) (h : DvSl w sv xs) (hn : xs.length ≤ 1048576) (hpn : ∀ x ∈ xs, x.pins.length ≤ 1048576) :
    Calls Tryd.prog 24 #[sv] w fun e w' => ∃ g, e = .returned (.slice (some ⟨g, 0, none⟩) xs.length xs.length) ∧ DvBlk w' g xs ∧ w.heap.size ≤ g ∧ Below w.heap.size w w' := by
  rcases h with ⟨a, c, rfl, rfl⟩ | ⟨b, off, cap, rfl, h2, h3, h4⟩
  · obtain ⟨cs, hcs, hmk⟩ := make_dev 0 (by omega) w
    simp only [Int.natCast_zero] at hmk
    go_enter Tryd.func24, Tryd.ntmps24
    go_wp2
    go_loopw [4] (fun i wr => i = .int .i64 0 ∧ Blk wr w.heap.size cs 52 ∧ Below w.heap.size w wr) (fun _ _ => 0)
    case atStart => exact ⟨rfl, (by ((repeat (first | (with_reducible assumption) | (with_reducible refine Blk.drewN ?_ _) | (with_reducible refine Blk.drew ?_) | ((with_reducible refine Blk.new _ ?_); focus (first | omega | (simp; done) | (simp; omega))) | (with_reducible refine Blk.past ?_ _) | ((with_reducible refine Blk.apart ?_ _ _ _ ?_); rotate_left; focus (first | omega | (simp; done) | (simp; omega))) | (with_reducible refine Blk.by (by assumption) ?_))); done)), (by ((repeat (first | (with_reducible exact Below.refl _ _) | (with_reducible refine below_drewN ?_ _) | (with_reducible refine Below.drew ?_) | (with_reducible refine below_al ?_ _) | (with_reducible refine below_on (by assumption) ?_) | ((with_reducible refine Below.setCell ?_ ?_ _); rotate_left; focus (first | omega | (simp; done) | (simp; omega))) | (with_reducible assumption))); done))⟩
    case round =>
      obtain ⟨rfl, hx, hb⟩ := hrel
      go_wp2
      go_ret
      exact ⟨w.heap.size, rfl, ⟨cs, hx, hcs, by simp⟩, Nat.le_refl _, hb⟩
  · obtain ⟨cs0, hcs0, hmk⟩ := make_dev xs.length hn w
    unfold maxLen at h3
    go_enter Tryd.func24, Tryd.ntmps24
    go_wp2
    clear hmk
    go_loopw [4] (fun i wr => ∃ k : Nat, k ≤ xs.length ∧ i = .int .i64 k ∧ (∃ cs : Array Value, Blk wr w.heap.size cs 52 ∧ cs.size = xs.length * 4 ∧ ∀ j y, j < k → xs[j]? = some y → DvIn wr w.heap.size cs j y) ∧ Below w.heap.size w wr) (fun i _ => xs.length - (intOf i).toNat)
    case atStart => exact ⟨0, Nat.zero_le _, rfl, ⟨cs0, (by ((repeat (first | (with_reducible assumption) | (with_reducible refine Blk.drewN ?_ _) | (with_reducible refine Blk.drew ?_) | ((with_reducible refine Blk.new _ ?_); focus (first | omega | (simp; done) | (simp; omega))) | (with_reducible refine Blk.past ?_ _) | ((with_reducible refine Blk.apart ?_ _ _ _ ?_); rotate_left; focus (first | omega | (simp; done) | (simp; omega))) | (with_reducible refine Blk.by (by assumption) ?_))); done)), hcs0, by intro j y hj; omega⟩, (by ((repeat (first | (with_reducible exact Below.refl _ _) | (with_reducible refine below_drewN ?_ _) | (with_reducible refine Below.drew ?_) | (with_reducible refine below_al ?_ _) | (with_reducible refine below_on (by assumption) ?_) | ((with_reducible refine Below.setCell ?_ ?_ _); rotate_left; focus (first | omega | (simp; done) | (simp; omega))) | (with_reducible assumption))); done))⟩
    case round =>
      obtain ⟨k, hk, rfl, ⟨cs, hB, hsz, hold⟩, hb⟩ := hrel
      by_cases hlt : k < xs.length
      · obtain ⟨x, hx⟩ : ∃ x, xs[k]? = some x := ⟨xs[k], List.getElem?_eq_getElem hlt⟩
        obtain ⟨sv, c1, c2, c3, c4, hS⟩ := (h4 k x hx).by hb
        have HS := Lib.hid hsz
        have HO := Lib.hid hold
        have HX := Lib.hid hx
        have hxm : x.pins.length ≤ 1048576 := hpn x (List.mem_of_getElem? hx)
        have HT := Lib.hid (fun w h => toDevice_any x.kind x.wd x.len sv x.pins w h hxm)
        have hin : k * 4 + 4 ≤ cs.size := by omega
        have hlB := hB.lt
        obtain ⟨u0_, d0⟩ : ∃ u, cs[k * 4]? = some u := ⟨_, Array.getElem?_eq_getElem (by omega)⟩
        obtain ⟨u1_, d1⟩ : ∃ u, cs[k * 4 + 1]? = some u := ⟨_, Array.getElem?_eq_getElem (by omega)⟩
        obtain ⟨u2_, d2⟩ : ∃ u, cs[k * 4 + 2]? = some u := ⟨_, Array.getElem?_eq_getElem (by omega)⟩
        obtain ⟨u3_, d3⟩ : ∃ u, cs[k * 4 + 3]? = some u := ⟨_, Array.getElem?_eq_getElem (by omega)⟩
        obtain ⟨a', c', rfl⟩ := hS.len
        clear hsz hold hx h4 hcs0 hpn
        go_wp2_with fail
        refine (HT.out _ hS).mono ?_
        rintro e w1 ⟨gp, rfl, hG, hge, hb1⟩
        replace hB := Blk.by hb1 hB
        have hBc := hB.cell
        have hBf := hB.free
        go_wp2
        refine ⟨⟨k + 1, by omega, by go_num, ⟨put4 cs k (.int .i64 x.kind) (.slice (some ⟨gp, 0, none⟩) x.pins.length x.pins.length) (.int .i64 x.wd) (.int .i64 x.len), (((hB.set _ _).set _ _).set _ _).set _ _, by rw [size_put4]; exact HS.out, ?_⟩, (by ((repeat (first | (with_reducible exact Below.refl _ _) | (with_reducible refine below_drewN ?_ _) | (with_reducible refine Below.drew ?_) | (with_reducible refine below_al ?_ _) | (with_reducible refine below_on (by assumption) ?_) | ((with_reducible refine Below.setCell ?_ ?_ _); rotate_left; focus (first | omega | (simp; done) | (simp; omega))) | (with_reducible assumption))); done))⟩, by simp [intOf]; omega⟩
        intro j y hj hy
        refine DvIn.apart (DvIn.apart (DvIn.apart (DvIn.apart ?_ _ _ _ (Nat.le_refl _)) _ _ _ (Nat.le_refl _)) _ _ _ (Nat.le_refl _)) _ _ _ (Nat.le_refl _)
        by_cases hjk : j = k
        · subst hjk
          have hxy := HX.out
          obtain rfl : y = x := Option.some.inj (hy.symm.trans hxy)
          exact ⟨gp, by omega, hG, put4_same cs j _ _ _ _ hin⟩
        · obtain ⟨gq, q1, q2, q3⟩ := HO.out j y (by omega) hy
          exact ⟨gq, q1, q2.by hb1, put4_other cs k j _ _ _ _ _ _ _ _ hjk q3⟩
      · go_wp2
        go_ret
        refine ⟨w.heap.size, rfl, ⟨cs, hB, hsz, fun i x hx => hold i x ?_ hx⟩, Nat.le_refl _, hb⟩
        have := (List.getElem?_eq_some_iff.1 hx).1
        omega
end Go.Proofs.YtglddnkpccgchaaDoor

/- eqDeviceS over two slices that read alike. -/
namespace Go.Proofs.YtglddnkpccgchaaDoor
open Go.RowKit
set_option linter.unusedVariables false
set_option linter.unusedSimpArgs false

theorem DvBlk.sl {w : World} {g : Nat} {xs : List Dv} (h : DvBlk w g xs) (hm : xs.length ≤ maxLen) (hp : ∀ x ∈ xs, x.pins.length ≤ 9223372036854775807) : DvSl w (.slice (some ⟨g, 0, none⟩) xs.length xs.length) xs := by
  obtain ⟨cs, h1, h2, h3⟩ := h
  refine .inr ⟨g, 0, xs.length, rfl, Nat.le_refl _, hm, fun i x hx => ?_⟩
  obtain ⟨gp, q1, q2, e1, e2, e3, e4⟩ := h3 i x hx
  have hc := h1.cell
  simp only [Nat.zero_add]
  exact ⟨_, by rw [hc]; exact e1, by rw [hc]; exact e2, by rw [hc]; exact e3, by rw [hc]; exact e4, q2.sl (hp x (List.mem_of_getElem? hx))⟩

set_option maxRecDepth 100000 in
set_option maxHeartbeats 2000000 in
theorem eqDeviceS_refl (s1 s2 : Value) (xs : List Dv) (w : World) (h : DvSl w s1 xs) (h' : DvSl w s2 xs) :
    Calls Tryd.prog 29 #[s1, s2] w fun e w' => e = .returned (.bool true) ∧ Below w.heap.size w w' := by
  by_cases h0 : xs = []
  · subst h0
    obtain ⟨a, c, rfl⟩ := h.sized
    obtain ⟨a', c', rfl⟩ := h'.sized
    go_enter Tryd.func29, Tryd.ntmps29
    go_wp2
    go_loopw [5] (fun i wr => i = .int .i64 0 ∧ Below w.heap.size w wr) (fun _ _ => 0)
    case atStart => exact ⟨rfl, (by ((repeat (first | (with_reducible exact Below.refl _ _) | (with_reducible refine below_drewN ?_ _) | (with_reducible refine Below.drew ?_) | (with_reducible refine below_al ?_ _) | (with_reducible refine below_on (by assumption) ?_) | ((with_reducible refine Below.setCell ?_ ?_ _); rotate_left; focus (first | omega | (simp; done) | (simp; omega))) | (with_reducible assumption))); done))⟩
    case round =>
      obtain ⟨rfl, hb⟩ := hrel
      go_wp2
      go_ret
      exact ⟨rfl, hb⟩
  · rcases h with ⟨_, _, _, h2⟩ | ⟨b, off, cap, rfl, h2, h3, h4⟩
    · exact absurd h2 h0
    rcases h' with ⟨_, _, _, h2'⟩ | ⟨b', off', cap', rfl, h2', h3', h4'⟩
    · exact absurd h2' h0
    clear h0
    unfold maxLen at h3 h3'
    go_enter Tryd.func29, Tryd.ntmps29
    go_wp2
    go_loopw [5] (fun i wr => ∃ k : Nat, k ≤ xs.length ∧ i = .int .i64 k ∧ Below w.heap.size w wr) (fun i _ => xs.length - (intOf i).toNat)
    case atStart => exact ⟨0, Nat.zero_le _, rfl, (by ((repeat (first | (with_reducible exact Below.refl _ _) | (with_reducible refine below_drewN ?_ _) | (with_reducible refine Below.drew ?_) | (with_reducible refine below_al ?_ _) | (with_reducible refine below_on (by assumption) ?_) | ((with_reducible refine Below.setCell ?_ ?_ _); rotate_left; focus (first | omega | (simp; done) | (simp; omega))) | (with_reducible assumption))); done))⟩
    case round =>
      obtain ⟨k, hk, rfl, hb⟩ := hrel
      by_cases hlt : k < xs.length
      · obtain ⟨x, hx⟩ : ∃ x, xs[k]? = some x := ⟨xs[k], List.getElem?_eq_getElem hlt⟩
        obtain ⟨sv, c1, c2, c3, c4, hS⟩ := (h4 k x hx).by hb
        obtain ⟨sv', d1, d2, d3, d4, hS'⟩ := (h4' k x hx).by hb
        have HT := Lib.hid (fun w h h' => eqDevice_refl x.kind x.wd x.len sv sv' x.pins w h h')
        obtain ⟨a, c, rfl⟩ := hS.len
        obtain ⟨a', c', rfl⟩ := hS'.len
        clear h4 h4' hx
        have i1 : (0 : Int) ≤ (k : Int) := by omega
        have i2 : (k : Int) < (xs.length : Int) := by omega
        go_wp2_with fail
        go_region_held3 (fun w' => (w'.cell? ⟨b, off + k * 4, none⟩ = some (.int .i64 x.kind) ∧ w'.cell? ⟨b, off + k * 4 + 1, none⟩ = some (.slice a x.pins.length c) ∧ w'.cell? ⟨b, off + k * 4 + 2, none⟩ = some (.int .i64 x.wd) ∧ w'.cell? ⟨b, off + k * 4 + 3, none⟩ = some (.int .i64 x.len)) ∧ (w'.cell? ⟨b', off' + k * 4, none⟩ = some (.int .i64 x.kind) ∧ w'.cell? ⟨b', off' + k * 4 + 1, none⟩ = some (.slice a' x.pins.length c') ∧ w'.cell? ⟨b', off' + k * 4 + 2, none⟩ = some (.int .i64 x.wd) ∧ w'.cell? ⟨b', off' + k * 4 + 3, none⟩ = some (.int .i64 x.len)) ∧ Below w.heap.size w w')
          (first | exact ⟨⟨c1, c2, c3, c4⟩, ⟨d1, d2, d3, d4⟩, hb.drew⟩ | exact ⟨⟨cell_by' hb1 c1, cell_by' hb1 c2, cell_by' hb1 c3, cell_by' hb1 c4⟩, ⟨cell_by' hb1 d1, cell_by' hb1 d2, cell_by' hb1 d3, cell_by' hb1 d4⟩, below_on hb1 hb.drew⟩)
          (first | (go_at_call 62; refine (HT.out _ (hS.by (below_of_drewN _ 1)) (hS'.by (below_of_drewN _ 1))).mono ?_; rintro e w1 ⟨rfl, hb1⟩))
        go_wp2
        exact ⟨⟨k + 1, by omega, by go_num, below_on hb1 hb.drew⟩, by simp [intOf]; omega⟩
      · go_wp2
        go_ret
        exact ⟨rfl, hb⟩
end Go.Proofs.YtglddnkpccgchaaDoor

/- Contracts of the functions of package laws over a matching. -/
namespace Go.Proofs.YtglddnkpccgchaaDoor
open Go.RowKit
set_option linter.unusedVariables false
set_option linter.unusedSimpArgs false

/-- A value that reads as these two lists. -/
def MaV (w : World) (v : Value) (x : List Int × List Int) : Prop := ∃ s1 s2, v = .agg #[s1, s2] ∧ IntSl w s1 x.1 ∧ IntSl w s2 x.2
theorem MaV.by {w w1 : World} {v : Value} {x : List Int × List Int} (hb : Below w.heap.size w w1) (h : MaV w v x) : MaV w1 v x := by
  obtain ⟨s1, s2, h1, h2, h3⟩ := h; exact ⟨s1, s2, h1, h2.by hb, h3.by hb⟩
theorem MaV.sized {w : World} {v : Value} {x : List Int × List Int} (h : MaV w v x) : ∃ a c a' c', v = .agg #[.slice a x.1.length c, .slice a' x.2.length c'] := by
  obtain ⟨s1, s2, rfl, hd, hp⟩ := h
  obtain ⟨a, c, rfl⟩ := hd.len
  obtain ⟨a', c', rfl⟩ := hp.len
  exact ⟨a, c, a', c', rfl⟩

end Go.Proofs.YtglddnkpccgchaaDoor
namespace Go.Proofs.YtglddnkpccgchaaDoor
open Go.ChangeShapes Go.WideShapes Go.ChangeAt Go.RowKit Go.Joins Go.Deep

/-- A matching of package laws that came in, by value. -/
def IsMaV (W : World) (v : Value) (x : List Int × List Int) : Prop := MaV W v x ∧ (∀ z ∈ x.1, Fits z) ∧ ∀ z ∈ x.2, Fits z
end Go.Proofs.YtglddnkpccgchaaDoor
