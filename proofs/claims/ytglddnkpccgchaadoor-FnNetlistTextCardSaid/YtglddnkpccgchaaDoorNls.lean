/- Slices of ports: what a walk knows of one. -/
import Derived.Test.YtglddnkpccgchaaDoorDevs
import Derived.Deep.Slices
namespace Go.Proofs.YtglddnkpccgchaaDoor
open Go.RowKit
set_option linter.unusedVariables false
set_option linter.unusedSimpArgs false

/-- A port. -/
structure Pt where
  name : ByteArray
  net : Int
/-- The two cells of a port. -/
def PtAt (w : World) (g o : Nat) (x : Pt) : Prop :=
  w.cell? ⟨g, o, none⟩ = some (.string x.name) ∧ w.cell? ⟨g, o + 1, none⟩ = some (.int .i64 x.net)
/-- A slice that reads as these ports. -/
def PtSl (w : World) (sv : Value) (xs : List Pt) : Prop :=
  (∃ a c, sv = .slice a 0 c ∧ xs = []) ∨ ∃ b off cap, sv = .slice (some ⟨b, off, none⟩) xs.length cap ∧ xs.length ≤ cap ∧ cap ≤ maxLen ∧ ∀ (i : Nat) (x : Pt), xs[i]? = some x → PtAt w b (off + i * 2) x
theorem PtAt.by {w w1 : World} {g o : Nat} {x : Pt} (hb : Below w.heap.size w w1) (h : PtAt w g o x) : PtAt w1 g o x := ⟨cell_by' hb h.1, cell_by' hb h.2⟩
theorem PtSl.by {w w1 : World} {sv : Value} {xs : List Pt} (hb : Below w.heap.size w w1) (h : PtSl w sv xs) : PtSl w1 sv xs := by
  rcases h with h | ⟨b, off, cap, h1, h2, h3, h4⟩
  · exact .inl h
  · exact .inr ⟨b, off, cap, h1, h2, h3, fun i x hx => (h4 i x hx).by hb⟩
theorem PtSl.sized {w : World} {sv : Value} {xs : List Pt} (h : PtSl w sv xs) : ∃ a c, sv = .slice a xs.length c := by
  rcases h with ⟨a, c, h1, h2⟩ | ⟨b, off, cap, h1, _⟩
  · subst h2; exact ⟨a, c, h1⟩
  · exact ⟨_, _, h1⟩
end Go.Proofs.YtglddnkpccgchaaDoor

/- Contracts of the functions of package laws over a port. -/
namespace Go.Proofs.YtglddnkpccgchaaDoor
open Go.RowKit
set_option linter.unusedVariables false
set_option linter.unusedSimpArgs false

set_option maxRecDepth 100000 in
set_option maxHeartbeats 1000000 in
theorem szPort_any (name : ByteArray) (net : Int) (l : Int) (w : World) (hn : name.size ≤ 9223372036854775807) (hl : 0 ≤ l) (hl' : l ≤ 1048576) :
    Calls Tryd.prog 55 #[.agg #[.string name, .int .i64 net], .int .i64 l] w fun e w' => e = .returned (.int .i64 (if l < name.size then -1 else l - name.size)) ∧ Below w.heap.size w w' := by
  obtain ⟨r, hr⟩ : ∃ r : Int, (if l < name.size then (-1 : Int) else l - name.size) = r := ⟨_, rfl⟩
  rw [hr]
  have HR := Lib.hid hr
  clear hr
  by_cases hlt : l < name.size
  · go_enter Tryd.func55, Tryd.ntmps55
    go_wp2
    go_ret
    exact ⟨ret_i64 (by rw [← HR.out, if_pos hlt]), (by ((repeat (first | (with_reducible exact Below.refl _ _) | (with_reducible refine below_drewN ?_ _) | (with_reducible refine Below.drew ?_) | (with_reducible refine below_al ?_ _) | (with_reducible refine below_on (by assumption) ?_) | ((with_reducible refine Below.setCell ?_ ?_ _); rotate_left; focus (first | omega | (simp; done) | (simp; omega))) | (with_reducible assumption))); done))⟩
  · go_enter Tryd.func55, Tryd.ntmps55
    go_wp2
    go_ret
    exact ⟨ret_i64 (by rw [← HR.out, if_neg (by omega)]), (by ((repeat (first | (with_reducible exact Below.refl _ _) | (with_reducible refine below_drewN ?_ _) | (with_reducible refine Below.drew ?_) | (with_reducible refine below_al ?_ _) | (with_reducible refine below_on (by assumption) ?_) | ((with_reducible refine Below.setCell ?_ ?_ _); rotate_left; focus (first | omega | (simp; done) | (simp; omega))) | (with_reducible assumption))); done))⟩

set_option maxRecDepth 100000 in
set_option maxHeartbeats 1000000 in
theorem toPort_any (name : ByteArray) (net : Int) (w : World) :
    Calls Tryd.prog 57 #[.agg #[.string name, .int .i64 net]] w fun e w' => e = .returned (.agg #[.string name, .int .i64 net]) ∧ Below w.heap.size w w' := by
  go_enter Tryd.func57, Tryd.ntmps57
  go_wp2
  exact bodyPost_ret (v := .agg #[.string name, .int .i64 net]) (by simp [results, Tryd.results57, go_sem, *]) rfl ⟨rfl, (by ((repeat (first | (with_reducible exact Below.refl _ _) | (with_reducible refine below_drewN ?_ _) | (with_reducible refine Below.drew ?_) | (with_reducible refine below_al ?_ _) | (with_reducible refine below_on (by assumption) ?_) | ((with_reducible refine Below.setCell ?_ ?_ _); rotate_left; focus (first | omega | (simp; done) | (simp; omega))) | (with_reducible assumption))); done))⟩

set_option maxRecDepth 100000 in
set_option maxHeartbeats 1000000 in
theorem eqPort_refl (name : ByteArray) (net : Int) (w : World) :
    Calls Tryd.prog 63 #[.agg #[.string name, .int .i64 net], .agg #[.string name, .int .i64 net]] w fun e w' => e = .returned (.bool true) ∧ Below w.heap.size w w' := by
  go_enter Tryd.func63, Tryd.ntmps63
  go_wp2
  go_ret
  exact ⟨rfl, (by ((repeat (first | (with_reducible exact Below.refl _ _) | (with_reducible refine below_drewN ?_ _) | (with_reducible refine Below.drew ?_) | (with_reducible refine below_al ?_ _) | (with_reducible refine below_on (by assumption) ?_) | ((with_reducible refine Below.setCell ?_ ?_ _); rotate_left; focus (first | omega | (simp; done) | (simp; omega))) | (with_reducible assumption))); done))⟩
end Go.Proofs.YtglddnkpccgchaaDoor

/- The size of a slice of ports. -/
namespace Go.Proofs.YtglddnkpccgchaaDoor
open Go.RowKit
set_option linter.unusedVariables false
set_option linter.unusedSimpArgs false

/-- What the names of the ports take up. -/
def namesAll : List Pt → Int
  | [] => 0
  | x :: xs => x.name.size + namesAll xs
theorem namesAll_nonneg : ∀ xs : List Pt, 0 ≤ namesAll xs
  | [] => by simp [namesAll]
  | x :: xs => by have := namesAll_nonneg xs; simp only [namesAll]; omega
theorem namesAll_take (xs : List Pt) (k : Nat) (x : Pt) (h : xs[k]? = some x) : namesAll (xs.take (k + 1)) = namesAll (xs.take k) + x.name.size := by
  induction xs generalizing k with
  | nil => simp at h
  | cons y ys ih =>
    cases k with
    | zero => simp at h; subst h; simp [namesAll]
    | succ k =>
      simp at h
      have := ih k h
      simp only [List.take_succ_cons, namesAll]
      omega
theorem namesAll_mono (xs : List Pt) (k : Nat) : namesAll (xs.take k) ≤ namesAll xs := by
  induction xs generalizing k with
  | nil => simp
  | cons y ys ih =>
    cases k with
    | zero => simp [namesAll]; have := namesAll_nonneg ys; omega
    | succ k => have := ih k; simp only [List.take_succ_cons, namesAll]; omega
def Pt.ok (x : Pt) : Prop := x.name.size ≤ 9223372036854775807 ∧ Fits x.net

set_option maxRecDepth 100000 in
set_option maxHeartbeats 2000000 in
theorem szPortS_any (sv : Value) (xs : List Pt) (l : Int) (w : World) (h : PtSl w sv xs) (hok : ∀ x ∈ xs, x.ok) (hl : 0 ≤ l) (hl' : l ≤ 1048576) :
    Calls Tryd.prog 22 #[sv, .int .i64 l] w fun e w' => e = .returned (.int .i64 (if l < xs.length + namesAll xs then -1 else l - xs.length - namesAll xs)) ∧ Below w.heap.size w w' := by
  obtain ⟨r, hr⟩ : ∃ r : Int, (if l < xs.length + namesAll xs then (-1 : Int) else l - xs.length - namesAll xs) = r := ⟨_, rfl⟩
  rw [hr]
  have HR := Lib.hid hr
  clear hr
  have hpn := namesAll_nonneg xs
  rcases h with ⟨a, c, rfl, rfl⟩ | ⟨b, off, cap, rfl, h2, h3, h4⟩
  · go_enter Tryd.func22, Tryd.ntmps22
    go_wp2
    go_loopw [1, 5] (fun v i wr => i = .int .i64 0 ∧ v = .int .i64 l ∧ wr = w) (fun _ _ _ => 0)
    case atStart => exact ⟨rfl, by simp, rfl⟩
    case round =>
      obtain ⟨rfl, rfl, rfl⟩ := hrel
      go_wp2
      go_ret
      exact ⟨ret_i64 (by rw [← HR.out]; simp [namesAll]; omega), Below.refl _ _⟩
  · unfold maxLen at h3
    by_cases hbig : l < xs.length
    · clear h4
      go_enter Tryd.func22, Tryd.ntmps22
      go_wp2
      go_ret
      exact ⟨ret_i64 (by rw [← HR.out, if_pos (by omega)]), Below.refl _ _⟩
    · have HOK := Lib.hid hok
      clear hok
      go_enter Tryd.func22, Tryd.ntmps22
      go_wp2
      go_loopw [1, 5] (fun v i wr => ∃ k : Nat, k ≤ xs.length ∧ i = .int .i64 k ∧ (∃ f : Int, v = .int .i64 f ∧ f = l - xs.length - namesAll (xs.take k) ∧ 0 ≤ f) ∧ Below w.heap.size w wr) (fun _ i _ => xs.length - (intOf i).toNat)
      case atStart => exact ⟨0, Nat.zero_le _, rfl, ⟨_, rfl, by simp [namesAll], by omega⟩, Below.refl _ _⟩
      case round =>
        obtain ⟨k, hk, rfl, ⟨f, rfl, hf, hf0⟩, hb⟩ := hrel
        by_cases hlt : k < xs.length
        · obtain ⟨x, hx⟩ : ∃ x, xs[k]? = some x := ⟨xs[k], List.getElem?_eq_getElem hlt⟩
          obtain ⟨c1, c2⟩ := (h4 k x hx).by hb
          have HT := Lib.hid (namesAll_take xs k x hx)
          have HM := Lib.hid (namesAll_mono xs (k + 1))
          have HF := Lib.hid hf
          have hfl : f ≤ 1048576 := by have := namesAll_nonneg (xs.take k); omega
          have HZ := Lib.hid (fun w => szPort_any x.name x.net f w (HOK.out x (List.mem_of_getElem? hx)).1 hf0 hfl)
          clear h4 hx hf
          have i1 : (0 : Int) ≤ (k : Int) := by omega
          have i2 : (k : Int) < (xs.length : Int) := by omega
          by_cases hsm : f < x.name.size
          · have HZ' := HZ.out
            simp only [if_pos hsm] at HZ'
            have HZ2 := Lib.hid HZ'
            clear HZ HZ'
            go_wp2_with fail
            refine (HZ2.out _).mono ?_
            rintro e w1 ⟨rfl, hb1⟩
            go_wp2
            go_ret
            refine ⟨ret_i64 ?_, below_on hb1 hb⟩
            rw [← HR.out, if_pos]
            have := HT.out; have := HM.out; have := HF.out; omega
          · have HZ' := HZ.out
            simp only [if_neg hsm] at HZ'
            have HZ2 := Lib.hid HZ'
            clear HZ HZ'
            obtain ⟨f', hf'⟩ : ∃ f' : Int, f - x.name.size = f' := ⟨_, rfl⟩
            rw [hf'] at HZ2
            have HF' := Lib.hid hf'
            have hf'0 : 0 ≤ f' := by omega
            clear hf' hsm
            go_wp2_with fail
            refine (HZ2.out _).mono ?_
            rintro e w1 ⟨rfl, hb1⟩
            go_wp2
            exact ⟨⟨k + 1, by omega, by go_num, ⟨f', rfl, by have := HT.out; have := HF.out; have := HF'.out; omega, hf'0⟩, below_on hb1 hb⟩, by simp [intOf]; omega⟩
        · obtain rfl : k = xs.length := by omega
          rw [List.take_length] at hf
          go_wp2
          go_ret
          exact ⟨ret_i64 (by rw [← HR.out, if_neg (by omega)]; exact hf), hb⟩
end Go.Proofs.YtglddnkpccgchaaDoor

/- toPortS and eqPortS. -/
namespace Go.Proofs.YtglddnkpccgchaaDoor
open Go.RowKit
set_option linter.unusedVariables false
set_option linter.unusedSimpArgs false

def Cs2 (cs : Array Value) (i : Nat) (a b : Value) : Prop := cs[i * 2]? = some a ∧ cs[i * 2 + 1]? = some b
def put2 (cs : Array Value) (i : Nat) (a b : Value) : Array Value := (cs.setIfInBounds (i * 2) a).setIfInBounds (i * 2 + 1) b
theorem size_put2 (cs : Array Value) (i : Nat) (a b : Value) : (put2 cs i a b).size = cs.size := by simp [put2]
theorem put2_same (cs : Array Value) (i : Nat) (a b : Value) (h : i * 2 + 2 ≤ cs.size) : Cs2 (put2 cs i a b) i a b := by
  refine ⟨?_, ?_⟩ <;> simp only [put2, Array.getElem?_setIfInBounds, Array.size_setIfInBounds] <;> repeat (first | rw [if_pos trivial] | rw [if_pos (by omega)] | rw [if_neg (by omega)])
theorem put2_other (cs : Array Value) (i j : Nat) (a b a' b' : Value) (hne : j ≠ i) (h : Cs2 cs j a' b') : Cs2 (put2 cs i a b) j a' b' := by
  obtain ⟨h1, h2⟩ := h
  refine ⟨?_, ?_⟩ <;> simp only [put2, Array.getElem?_setIfInBounds, Array.size_setIfInBounds] <;> (repeat rw [if_neg (by omega)]) <;> assumption

/-- A block of the call's own that holds these ports, and no more. -/
def PtBlk (w : World) (g : Nat) (xs : List Pt) : Prop := ∃ cs : Array Value, Blk w g cs 49 ∧ cs.size = xs.length * 2 ∧ ∀ (i : Nat) (x : Pt), xs[i]? = some x → Cs2 cs i (.string x.name) (.int .i64 x.net)
theorem PtBlk.by {w w1 : World} {g : Nat} {xs : List Pt} (hb : Below w.heap.size w w1) (h : PtBlk w g xs) : PtBlk w1 g xs := by
  obtain ⟨cs, h1, h2⟩ := h; exact ⟨cs, Blk.by hb h1, h2⟩
theorem PtBlk.apart {w : World} {g : Nat} {xs : List Pt} (h : PtBlk w g xs) (b o : Nat) (v : Value) (hb : g ≠ b) : PtBlk (w.setCell ⟨b, o, none⟩ v) g xs := by
  obtain ⟨cs, h1, h2⟩ := h; exact ⟨cs, h1.apart b o v hb, h2⟩
theorem PtBlk.sl {w : World} {g : Nat} {xs : List Pt} (h : PtBlk w g xs) (hm : xs.length ≤ maxLen) : PtSl w (.slice (some ⟨g, 0, none⟩) xs.length xs.length) xs := by
  obtain ⟨cs, h1, h2, h3⟩ := h
  refine .inr ⟨g, 0, xs.length, rfl, Nat.le_refl _, hm, fun i x hx => ?_⟩
  obtain ⟨e1, e2⟩ := h3 i x hx
  have hc := h1.cell
  simp only [Nat.zero_add]
  exact ⟨by rw [hc]; exact e1, by rw [hc]; exact e2⟩

theorem infoPt : (Tryd.prog.info? 49).map (fun i => (i.zero, i.size, i.bytes)) = some (some (.agg #[.string ByteArray.empty, .int .i64 0]), 2, 24) := by kernel_rfl
theorem make_pt (n : Nat) (hn : n ≤ 1048576) (w : World) : ∃ cs : Array Value, cs.size = n * 2 ∧ (Instr.makeSlice 29 (.int .i64 n) (.int .i64 n)).run Tryd.prog w = .ok (.slice (some ⟨w.heap.size, 0, none⟩) n n) (w.alloc (.cells cs 49)) := by
  obtain ⟨i0, hi, hz0, hz1, hz2⟩ := info_parts infoPt
  have h := run_make (P := Tryd.prog) w 29 49 i0 _ Tryd.underlying29 hi hz0 .i64 .i64 (n : Int) (n : Int) (by omega) (by omega) (by rw [hz2]; omega) (by omega)
  simp only [Int.toNat_natCast, hz1] at h
  exact ⟨_, size_madeCells _ _, h⟩
end Go.Proofs.YtglddnkpccgchaaDoor

/- toPortS and eqPortS: the walks. -/
namespace Go.Proofs.YtglddnkpccgchaaDoor
open Go.RowKit
set_option linter.unusedVariables false
set_option linter.unusedSimpArgs false

set_option maxRecDepth 100000 in
set_option maxHeartbeats 2000000 in
theorem toPortS_any (sv : Value) (xs : List Pt) (w : World) (h : PtSl w sv xs) (hn : xs.length ≤ 1048576) :
    Calls Tryd.prog 25 #[sv] w fun e w' => ∃ g, e = .returned (.slice (some ⟨g, 0, none⟩) xs.length xs.length) ∧ PtBlk w' g xs ∧ w.heap.size ≤ g ∧ Below w.heap.size w w' := by
  rcases h with ⟨a, c, rfl, rfl⟩ | ⟨b, off, cap, rfl, h2, h3, h4⟩
  · obtain ⟨cs, hcs, hmk⟩ := make_pt 0 (by omega) w
    simp only [Int.natCast_zero] at hmk
    go_enter Tryd.func25, Tryd.ntmps25
    go_wp2
    go_loopw [4] (fun i wr => i = .int .i64 0 ∧ Blk wr w.heap.size cs 49 ∧ Below w.heap.size w wr) (fun _ _ => 0)
    case atStart => exact ⟨rfl, (by ((repeat (first | (with_reducible assumption) | (with_reducible refine Blk.drewN ?_ _) | (with_reducible refine Blk.drew ?_) | ((with_reducible refine Blk.new _ ?_); focus (first | omega | (simp; done) | (simp; omega))) | (with_reducible refine Blk.past ?_ _) | ((with_reducible refine Blk.apart ?_ _ _ _ ?_); rotate_left; focus (first | omega | (simp; done) | (simp; omega))) | (with_reducible refine Blk.by (by assumption) ?_))); done)), (by ((repeat (first | (with_reducible exact Below.refl _ _) | (with_reducible refine below_drewN ?_ _) | (with_reducible refine Below.drew ?_) | (with_reducible refine below_al ?_ _) | (with_reducible refine below_on (by assumption) ?_) | ((with_reducible refine Below.setCell ?_ ?_ _); rotate_left; focus (first | omega | (simp; done) | (simp; omega))) | (with_reducible assumption))); done))⟩
    case round =>
      obtain ⟨rfl, hx, hb⟩ := hrel
      go_wp2
      go_ret
      exact ⟨w.heap.size, rfl, ⟨cs, hx, hcs, by simp⟩, Nat.le_refl _, hb⟩
  · obtain ⟨cs0, hcs0, hmk⟩ := make_pt xs.length hn w
    unfold maxLen at h3
    go_enter Tryd.func25, Tryd.ntmps25
    go_wp2
    clear hmk
    go_loopw [4] (fun i wr => ∃ k : Nat, k ≤ xs.length ∧ i = .int .i64 k ∧ (∃ cs : Array Value, Blk wr w.heap.size cs 49 ∧ cs.size = xs.length * 2 ∧ ∀ j y, j < k → xs[j]? = some y → Cs2 cs j (.string y.name) (.int .i64 y.net)) ∧ Below w.heap.size w wr) (fun i _ => xs.length - (intOf i).toNat)
    case atStart => exact ⟨0, Nat.zero_le _, rfl, ⟨cs0, (by ((repeat (first | (with_reducible assumption) | (with_reducible refine Blk.drewN ?_ _) | (with_reducible refine Blk.drew ?_) | ((with_reducible refine Blk.new _ ?_); focus (first | omega | (simp; done) | (simp; omega))) | (with_reducible refine Blk.past ?_ _) | ((with_reducible refine Blk.apart ?_ _ _ _ ?_); rotate_left; focus (first | omega | (simp; done) | (simp; omega))) | (with_reducible refine Blk.by (by assumption) ?_))); done)), hcs0, by intro j y hj; omega⟩, (by ((repeat (first | (with_reducible exact Below.refl _ _) | (with_reducible refine below_drewN ?_ _) | (with_reducible refine Below.drew ?_) | (with_reducible refine below_al ?_ _) | (with_reducible refine below_on (by assumption) ?_) | ((with_reducible refine Below.setCell ?_ ?_ _); rotate_left; focus (first | omega | (simp; done) | (simp; omega))) | (with_reducible assumption))); done))⟩
    case round =>
      obtain ⟨k, hk, rfl, ⟨cs, hB, hsz, hold⟩, hb⟩ := hrel
      by_cases hlt : k < xs.length
      · obtain ⟨x, hx⟩ : ∃ x, xs[k]? = some x := ⟨xs[k], List.getElem?_eq_getElem hlt⟩
        obtain ⟨c1, c2⟩ := (h4 k x hx).by hb
        have HS := Lib.hid hsz
        have HO := Lib.hid hold
        have HX := Lib.hid hx
        have hin : k * 2 + 2 ≤ cs.size := by omega
        obtain ⟨u0_, d0⟩ : ∃ u, cs[k * 2]? = some u := ⟨_, Array.getElem?_eq_getElem (by omega)⟩
        obtain ⟨u1_, d1⟩ : ∃ u, cs[k * 2 + 1]? = some u := ⟨_, Array.getElem?_eq_getElem (by omega)⟩
        clear hsz hold hx h4 hcs0
        go_wp2_with fail
        refine (toPort_any x.name x.net _).mono ?_
        rintro e w1 ⟨rfl, hb1⟩
        replace hB := Blk.by hb1 hB
        have hBc := hB.cell
        have hBf := hB.free
        go_wp2
        refine ⟨⟨k + 1, by omega, by go_num, ⟨put2 cs k (.string x.name) (.int .i64 x.net), (hB.set _ _).set _ _, by rw [size_put2]; exact HS.out, ?_⟩, (by ((repeat (first | (with_reducible exact Below.refl _ _) | (with_reducible refine below_drewN ?_ _) | (with_reducible refine Below.drew ?_) | (with_reducible refine below_al ?_ _) | (with_reducible refine below_on (by assumption) ?_) | ((with_reducible refine Below.setCell ?_ ?_ _); rotate_left; focus (first | omega | (simp; done) | (simp; omega))) | (with_reducible assumption))); done))⟩, by simp [intOf]; omega⟩
        intro j y hj hy
        by_cases hjk : j = k
        · subst hjk
          have hxy := HX.out
          obtain rfl : y = x := Option.some.inj (hy.symm.trans hxy)
          exact put2_same cs j _ _ hin
        · exact put2_other cs k j _ _ _ _ hjk (HO.out j y (by omega) hy)
      · go_wp2
        go_ret
        refine ⟨w.heap.size, rfl, ⟨cs, hB, hsz, fun i x hx => hold i x ?_ hx⟩, Nat.le_refl _, hb⟩
        have := (List.getElem?_eq_some_iff.1 hx).1
        omega

set_option maxRecDepth 100000 in
set_option maxHeartbeats 2000000 in
theorem eqPortS_refl (s1 s2 : Value) (xs : List Pt) (w : World) (h : PtSl w s1 xs) (h' : PtSl w s2 xs) :
    Calls Tryd.prog 30 #[s1, s2] w fun e w' => e = .returned (.bool true) ∧ Below w.heap.size w w' := by
  by_cases h0 : xs = []
  · subst h0
    obtain ⟨a, c, rfl⟩ := h.sized
    obtain ⟨a', c', rfl⟩ := h'.sized
    go_enter Tryd.func30, Tryd.ntmps30
    go_wp2
    go_loopw [5] (fun i wr => i = .int .i64 0 ∧ Below w.heap.size w wr) (fun _ _ => 0)
    case atStart => exact ⟨rfl, (by ((repeat (first | (with_reducible exact Below.refl _ _) | (with_reducible refine below_drewN ?_ _) | (with_reducible refine Below.drew ?_) | (with_reducible refine below_al ?_ _) | (with_reducible refine below_on (by assumption) ?_) | ((with_reducible refine Below.setCell ?_ ?_ _); rotate_left; focus (first | omega | (simp; done) | (simp; omega))) | (with_reducible assumption))); done))⟩
    case round =>
      obtain ⟨rfl, hb⟩ := hrel
      go_wp2
      go_ret
      exact ⟨rfl, hb⟩
  · rcases h with ⟨_, _, _, h2⟩ | ⟨b, off, cap, rfl, h2, h3, h4⟩
    · exact absurd h2 h0
    rcases h' with ⟨_, _, _, h2'⟩ | ⟨b', off', cap', rfl, h2', h3', h4'⟩
    · exact absurd h2' h0
    clear h0
    unfold maxLen at h3 h3'
    go_enter Tryd.func30, Tryd.ntmps30
    go_wp2
    go_loopw [5] (fun i wr => ∃ k : Nat, k ≤ xs.length ∧ i = .int .i64 k ∧ Below w.heap.size w wr) (fun i _ => xs.length - (intOf i).toNat)
    case atStart => exact ⟨0, Nat.zero_le _, rfl, (by ((repeat (first | (with_reducible exact Below.refl _ _) | (with_reducible refine below_drewN ?_ _) | (with_reducible refine Below.drew ?_) | (with_reducible refine below_al ?_ _) | (with_reducible refine below_on (by assumption) ?_) | ((with_reducible refine Below.setCell ?_ ?_ _); rotate_left; focus (first | omega | (simp; done) | (simp; omega))) | (with_reducible assumption))); done))⟩
    case round =>
      obtain ⟨k, hk, rfl, hb⟩ := hrel
      by_cases hlt : k < xs.length
      · obtain ⟨x, hx⟩ : ∃ x, xs[k]? = some x := ⟨xs[k], List.getElem?_eq_getElem hlt⟩
        obtain ⟨c1, c2⟩ := (h4 k x hx).by hb
        obtain ⟨d1, d2⟩ := (h4' k x hx).by hb
        clear h4 h4' hx
        have i1 : (0 : Int) ≤ (k : Int) := by omega
        have i2 : (k : Int) < (xs.length : Int) := by omega
        go_wp2_with fail
        go_region_held3 (fun w' => (w'.cell? ⟨b, off + k * 2, none⟩ = some (.string x.name) ∧ w'.cell? ⟨b, off + k * 2 + 1, none⟩ = some (.int .i64 x.net)) ∧ (w'.cell? ⟨b', off' + k * 2, none⟩ = some (.string x.name) ∧ w'.cell? ⟨b', off' + k * 2 + 1, none⟩ = some (.int .i64 x.net)) ∧ Below w.heap.size w w')
          (first | exact ⟨⟨c1, c2⟩, ⟨d1, d2⟩, hb.drew⟩ | exact ⟨⟨cell_by' hb1 c1, cell_by' hb1 c2⟩, ⟨cell_by' hb1 d1, cell_by' hb1 d2⟩, below_on hb1 hb.drew⟩)
          (first | (go_at_call 63; refine (eqPort_refl x.name x.net _).mono ?_; rintro e w1 ⟨rfl, hb1⟩))
        go_wp2
        exact ⟨⟨k + 1, by omega, by go_num, below_on hb1 hb.drew⟩, by simp [intOf]; omega⟩
      · go_wp2
        go_ret
        exact ⟨rfl, hb⟩
end Go.Proofs.YtglddnkpccgchaaDoor

/- Contracts of the functions of package laws over netlists. -/
namespace Go.Proofs.YtglddnkpccgchaaDoor
open Go.RowKit
set_option linter.unusedVariables false
set_option linter.unusedSimpArgs false

def nlSize (ds : List Dv) (ps : List Pt) : Int := ds.length + pinsAll ds + ps.length + namesAll ps

set_option maxRecDepth 100000 in
set_option maxHeartbeats 1000000 in
theorem szNetlist_any (nets : Int) (s1 s2 : Value) (ds : List Dv) (ps : List Pt) (l : Int) (w : World) (h : DvSl w s1 ds) (h' : PtSl w s2 ps) (hok : ∀ x ∈ ps, x.ok) (hl : 0 ≤ l) (hl' : l ≤ 1048576) :
    Calls Tryd.prog 6 #[.agg #[.int .i64 nets, s1, s2], .int .i64 l] w fun e w' => e = .returned (.int .i64 (if l < nlSize ds ps then -1 else l - nlSize ds ps)) ∧ Below w.heap.size w w' := by
  obtain ⟨r, hr⟩ : ∃ r : Int, (if l < nlSize ds ps then (-1 : Int) else l - nlSize ds ps) = r := ⟨_, rfl⟩
  rw [hr]
  have hw := (Below.refl _ w).alloc (Nat.le_refl _) (.cells #[.int .i64 nets, s1, s2] 25)
  have h1 := h.by hw
  have h2 := h'.by hw
  have hSD := fun w h => szDeviceS_any s1 ds l w h hl hl'
  obtain ⟨a, c, rfl⟩ := h.sized
  obtain ⟨a', c', rfl⟩ := h'.sized
  have hn1 := pinsAll_nonneg ds
  have hn2 := namesAll_nonneg ps
  by_cases hb : l < ds.length + pinsAll ds
  · simp only [if_pos hb] at hSD
    have HS := Lib.hid hSD
    have HR := Lib.hid (show (-1 : Int) = r by rw [← hr, if_pos (by unfold nlSize; omega)])
    clear hr hSD
    go_enter Tryd.func6, Tryd.ntmps6
    go_wp2_with fail
    refine (HS.out _ h1).mono ?_
    rintro e w1 ⟨rfl, hb1⟩
    go_wp2
    go_ret
    exact ⟨ret_i64 HR.out, (by ((repeat (first | (with_reducible exact Below.refl _ _) | (with_reducible refine below_drewN ?_ _) | (with_reducible refine Below.drew ?_) | (with_reducible refine below_al ?_ _) | (with_reducible refine below_on (by assumption) ?_) | ((with_reducible refine Below.setCell ?_ ?_ _); rotate_left; focus (first | omega | (simp; done) | (simp; omega))) | (with_reducible assumption))); done))⟩
  · simp only [if_neg hb] at hSD
    obtain ⟨m, hm⟩ : ∃ m : Int, l - ds.length - pinsAll ds = m := ⟨_, rfl⟩
    have hm0 : 0 ≤ m := by omega
    have hm1 : m ≤ 1048576 := by omega
    rw [hm] at hSD
    have HS := Lib.hid hSD
    have hSP := fun w h => szPortS_any (.slice a' ps.length c') ps m w h hok hm0 hm1
    by_cases hb' : m < ps.length + namesAll ps
    · simp only [if_pos hb'] at hSP
      have HP := Lib.hid hSP
      have HR := Lib.hid (show (-1 : Int) = r by rw [← hr, if_pos (by unfold nlSize; omega)])
      clear hr hSD hSP hm hb'
      go_enter Tryd.func6, Tryd.ntmps6
      go_wp2_with fail
      refine (HS.out _ h1).mono ?_
      rintro e w1 ⟨rfl, hb1⟩
      have k0 : Blk w1 w.heap.size #[.int .i64 nets, .slice a ds.length c, .slice a' ps.length c'] 25 := (by ((repeat (first | (with_reducible assumption) | (with_reducible refine Blk.drewN ?_ _) | (with_reducible refine Blk.drew ?_) | ((with_reducible refine Blk.new _ ?_); focus (first | omega | (simp; done) | (simp; omega))) | (with_reducible refine Blk.past ?_ _) | ((with_reducible refine Blk.apart ?_ _ _ _ ?_); rotate_left; focus (first | omega | (simp; done) | (simp; omega))) | (with_reducible refine Blk.by (by assumption) ?_))); done))
      have c0 := k0.cell
      go_wp2_with fail
      refine (HP.out _ (h2.by hb1)).mono ?_
      rintro e w2 ⟨rfl, hb2⟩
      go_wp2
      go_ret
      exact ⟨ret_i64 HR.out, (by ((repeat (first | (with_reducible exact Below.refl _ _) | (with_reducible refine below_drewN ?_ _) | (with_reducible refine Below.drew ?_) | (with_reducible refine below_al ?_ _) | (with_reducible refine below_on (by assumption) ?_) | ((with_reducible refine Below.setCell ?_ ?_ _); rotate_left; focus (first | omega | (simp; done) | (simp; omega))) | (with_reducible assumption))); done))⟩
    · simp only [if_neg hb'] at hSP
      have HR := Lib.hid (show m - ps.length - namesAll ps = r by rw [← hr, if_neg (by unfold nlSize; omega)]; unfold nlSize; omega)
      obtain ⟨q, hq⟩ : ∃ q : Int, m - ps.length - namesAll ps = q := ⟨_, rfl⟩
      have hq0 : 0 ≤ q := by omega
      rw [hq] at hSP HR
      have HP := Lib.hid hSP
      clear hr hSD hSP hm hb' hq
      go_enter Tryd.func6, Tryd.ntmps6
      go_wp2_with fail
      refine (HS.out _ h1).mono ?_
      rintro e w1 ⟨rfl, hb1⟩
      have k0 : Blk w1 w.heap.size #[.int .i64 nets, .slice a ds.length c, .slice a' ps.length c'] 25 := (by ((repeat (first | (with_reducible assumption) | (with_reducible refine Blk.drewN ?_ _) | (with_reducible refine Blk.drew ?_) | ((with_reducible refine Blk.new _ ?_); focus (first | omega | (simp; done) | (simp; omega))) | (with_reducible refine Blk.past ?_ _) | ((with_reducible refine Blk.apart ?_ _ _ _ ?_); rotate_left; focus (first | omega | (simp; done) | (simp; omega))) | (with_reducible refine Blk.by (by assumption) ?_))); done))
      have c0 := k0.cell
      go_wp2_with fail
      refine (HP.out _ (h2.by hb1)).mono ?_
      rintro e w2 ⟨rfl, hb2⟩
      go_wp2
      go_ret
      exact ⟨ret_i64 HR.out, (by ((repeat (first | (with_reducible exact Below.refl _ _) | (with_reducible refine below_drewN ?_ _) | (with_reducible refine Below.drew ?_) | (with_reducible refine below_al ?_ _) | (with_reducible refine below_on (by assumption) ?_) | ((with_reducible refine Below.setCell ?_ ?_ _); rotate_left; focus (first | omega | (simp; done) | (simp; omega))) | (with_reducible assumption))); done))⟩
end Go.Proofs.YtglddnkpccgchaaDoor

/- toNetlist and eqNetlist. -/
namespace Go.Proofs.YtglddnkpccgchaaDoor
open Go.RowKit
set_option linter.unusedVariables false
set_option linter.unusedSimpArgs false

theorem DvBlk.past {w : World} {g : Nat} {xs : List Dv} (h : DvBlk w g xs) (o : Obj) : DvBlk (w.alloc o) g xs := h.by ((Below.refl _ w).alloc (Nat.le_refl _) o)
theorem DvBlk.off {w : World} {g : Nat} {xs : List Dv} (h : DvBlk w g xs) (b o : Nat) (v : Value) (hb : b < g) : DvBlk (w.setCell ⟨b, o, none⟩ v) g xs := h.apart b o v hb

set_option maxRecDepth 100000 in
set_option maxHeartbeats 2000000 in
theorem toNetlist_any (nets : Int) (s1 s2 : Value) (ds : List Dv) (ps : List Pt) (w : World) (h : DvSl w s1 ds) (h' : PtSl w s2 ps) (hn : ds.length ≤ 1048576) (hpn : ∀ x ∈ ds, x.pins.length ≤ 1048576) (hn' : ps.length ≤ 1048576) :
    Calls Tryd.prog 8 #[.agg #[.int .i64 nets, s1, s2]] w fun e w' => ∃ g f, e = .returned (.agg #[.int .i64 nets, .slice (some ⟨g, 0, none⟩) ds.length ds.length, .slice (some ⟨f, 0, none⟩) ps.length ps.length]) ∧ DvBlk w' g ds ∧ PtBlk w' f ps ∧ w.heap.size ≤ g ∧ g < f ∧ Below w.heap.size w w' := by
  have HD := Lib.hid (fun w h => toDeviceS_any s1 ds w h hn hpn)
  have HP := Lib.hid (fun w h => toPortS_any s2 ps w h hn')
  obtain ⟨a, c, rfl⟩ := h.sized
  obtain ⟨a', c', rfl⟩ := h'.sized
  go_enter Tryd.func8, Tryd.ntmps8
  go_wp2_with fail
  refine (HD.out _ (h.by (by ((repeat (first | (with_reducible exact Below.refl _ _) | (with_reducible refine below_drewN ?_ _) | (with_reducible refine Below.drew ?_) | (with_reducible refine below_al ?_ _) | (with_reducible refine below_on (by assumption) ?_) | ((with_reducible refine Below.setCell ?_ ?_ _); rotate_left; focus (first | omega | (simp; done) | (simp; omega))) | (with_reducible assumption))); done)))).mono ?_
  rintro e w1 ⟨g, rfl, hG, hge, hb1⟩
  have k0 : Blk w1 w.heap.size #[.int .i64 nets, .slice a ds.length c, .slice a' ps.length c'] 25 := (by ((repeat (first | (with_reducible assumption) | (with_reducible refine Blk.drewN ?_ _) | (with_reducible refine Blk.drew ?_) | ((with_reducible refine Blk.new _ ?_); focus (first | omega | (simp; done) | (simp; omega))) | (with_reducible refine Blk.past ?_ _) | ((with_reducible refine Blk.apart ?_ _ _ _ ?_); rotate_left; focus (first | omega | (simp; done) | (simp; omega))) | (with_reducible refine Blk.by (by assumption) ?_))); done))
  have k1 : Blk w1 (w.heap.size + 1) #[.int .i64 0, .slice none 0 0, .slice none 0 0] 31 := (by ((repeat (first | (with_reducible assumption) | (with_reducible refine Blk.drewN ?_ _) | (with_reducible refine Blk.drew ?_) | ((with_reducible refine Blk.new _ ?_); focus (first | omega | (simp; done) | (simp; omega))) | (with_reducible refine Blk.past ?_ _) | ((with_reducible refine Blk.apart ?_ _ _ _ ?_); rotate_left; focus (first | omega | (simp; done) | (simp; omega))) | (with_reducible refine Blk.by (by assumption) ?_))); done))
  have k2 : Blk w1 (w.heap.size + 1 + 1) #[.int .i64 nets, .slice none 0 0, .slice none 0 0] 31 := (by ((repeat (first | (with_reducible assumption) | (with_reducible refine Blk.drewN ?_ _) | (with_reducible refine Blk.drew ?_) | ((with_reducible refine Blk.new _ ?_); focus (first | omega | (simp; done) | (simp; omega))) | (with_reducible refine Blk.past ?_ _) | ((with_reducible refine Blk.apart ?_ _ _ _ ?_); rotate_left; focus (first | omega | (simp; done) | (simp; omega))) | (with_reducible refine Blk.by (by assumption) ?_))); done))
  have l2 := k2.lt
  have c0 := k0.cell
  have c2 := k2.cell
  have f2 := k2.free
  simp at hge
  go_wp2_with fail
  have hbw : Below w.heap.size w (w1.setCell ⟨w.heap.size + 1 + 1, 1, none⟩ (.slice (some ⟨g, 0, none⟩) ds.length ds.length)) := (by ((repeat (first | (with_reducible exact Below.refl _ _) | (with_reducible refine below_drewN ?_ _) | (with_reducible refine Below.drew ?_) | (with_reducible refine below_al ?_ _) | (with_reducible refine below_on (by assumption) ?_) | ((with_reducible refine Below.setCell ?_ ?_ _); rotate_left; focus (first | omega | (simp; done) | (simp; omega))) | (with_reducible assumption))); done))
  refine (HP.out _ (h'.by hbw)).mono ?_
  rintro e w2 ⟨f, rfl, hF, hfe, hb2⟩
  replace k1 : Blk w2 (w.heap.size + 1) #[.int .i64 0, .slice none 0 0, .slice none 0 0] 31 := (by ((repeat (first | (with_reducible assumption) | (with_reducible refine Blk.drewN ?_ _) | (with_reducible refine Blk.drew ?_) | ((with_reducible refine Blk.new _ ?_); focus (first | omega | (simp; done) | (simp; omega))) | (with_reducible refine Blk.past ?_ _) | ((with_reducible refine Blk.apart ?_ _ _ _ ?_); rotate_left; focus (first | omega | (simp; done) | (simp; omega))) | (with_reducible refine Blk.by (by assumption) ?_))); done))
  replace k2 : Blk w2 (w.heap.size + 1 + 1) #[.int .i64 nets, .slice (some ⟨g, 0, none⟩) ds.length ds.length, .slice none 0 0] 31 := Blk.by hb2 (k2.set 1 _)
  have hgl := hG.lt
  replace hG := (hG.apart (w.heap.size + 1 + 1) 1 (.slice (some ⟨g, 0, none⟩) ds.length ds.length) (by omega)).by hb2
  replace hbw := below_on hb2 hbw
  have hgf : g < f := by simp at hfe; omega
  clear c0 k0 c2 f2 hb1 hb2
  have c1 := k1.cell
  have f1 := k1.free
  have c2 := k2.cell
  have f2 := k2.free
  have l1 := k1.lt
  have l2 := k2.lt
  go_wp2
  refine bodyPost_ret (v := .agg #[.int .i64 nets, .slice (some ⟨g, 0, none⟩) ds.length ds.length, .slice (some ⟨f, 0, none⟩) ps.length ps.length]) (by simp [results, Tryd.results8, go_sem, *]) rfl ⟨g, f, rfl, ?_, ?_, by omega, hgf, ?_⟩
  · repeat (first | (with_reducible exact hG) | ((with_reducible refine DvBlk.apart ?_ _ _ _ ?_); rotate_left; focus omega))
  · repeat (first | (with_reducible exact hF) | ((with_reducible refine PtBlk.apart ?_ _ _ _ ?_); rotate_left; focus omega))
  · repeat (first | (with_reducible exact hbw) | ((with_reducible refine Below.setCell ?_ ?_ _); rotate_left; focus (simp; try omega)))
end Go.Proofs.YtglddnkpccgchaaDoor

/- eqNetlist over two netlists that read alike. -/
namespace Go.Proofs.YtglddnkpccgchaaDoor
open Go.RowKit
set_option linter.unusedVariables false
set_option linter.unusedSimpArgs false

/-- A netlist by value. -/
structure Nl where
  nets : Int
  ds : List Dv
  ps : List Pt
/-- A value that reads as this netlist. -/
def NlV (w : World) (v : Value) (x : Nl) : Prop := ∃ s1 s2, v = .agg #[.int .i64 x.nets, s1, s2] ∧ DvSl w s1 x.ds ∧ PtSl w s2 x.ps
theorem NlV.by {w w1 : World} {v : Value} {x : Nl} (hb : Below w.heap.size w w1) (h : NlV w v x) : NlV w1 v x := by
  obtain ⟨s1, s2, h1, h2, h3⟩ := h; exact ⟨s1, s2, h1, h2.by hb, h3.by hb⟩

set_option maxRecDepth 100000 in
set_option maxHeartbeats 2000000 in
theorem eqNetlist_refl (v1 v2 : Value) (x : Nl) (w : World) (h1 : NlV w v1 x) (h2 : NlV w v2 x) :
    Calls Tryd.prog 10 #[v1, v2] w fun e w' => e = .returned (.bool true) ∧ Below w.heap.size w w' := by
  obtain ⟨s1, s2, rfl, hd, hp⟩ := h1
  obtain ⟨t1, t2, rfl, hd', hp'⟩ := h2
  obtain ⟨nets, ds, ps⟩ := x
  dsimp only at hd hp hd' hp' ⊢
  have HD := Lib.hid (fun s1 s2 w h h' => eqDeviceS_refl s1 s2 ds w h h')
  have HP := Lib.hid (fun s1 s2 w h h' => eqPortS_refl s1 s2 ps w h h')
  obtain ⟨a, c, rfl⟩ := hd.sized
  obtain ⟨a', c', rfl⟩ := hp.sized
  obtain ⟨b, d, rfl⟩ := hd'.sized
  obtain ⟨b', d', rfl⟩ := hp'.sized
  go_enter Tryd.func10, Tryd.ntmps10
  go_wp2_with fail
  refine (HD.out _ _ _ (hd.by (by ((repeat (first | (with_reducible exact Below.refl _ _) | (with_reducible refine below_drewN ?_ _) | (with_reducible refine Below.drew ?_) | (with_reducible refine below_al ?_ _) | (with_reducible refine below_on (by assumption) ?_) | ((with_reducible refine Below.setCell ?_ ?_ _); rotate_left; focus (first | omega | (simp; done) | (simp; omega))) | (with_reducible assumption))); done))) (hd'.by (by ((repeat (first | (with_reducible exact Below.refl _ _) | (with_reducible refine below_drewN ?_ _) | (with_reducible refine Below.drew ?_) | (with_reducible refine below_al ?_ _) | (with_reducible refine below_on (by assumption) ?_) | ((with_reducible refine Below.setCell ?_ ?_ _); rotate_left; focus (first | omega | (simp; done) | (simp; omega))) | (with_reducible assumption))); done)))).mono ?_
  rintro e w1 ⟨rfl, hb1⟩
  have k0 : Blk w1 w.heap.size #[.int .i64 nets, .slice a ds.length c, .slice a' ps.length c'] 31 := (by ((repeat (first | (with_reducible assumption) | (with_reducible refine Blk.drewN ?_ _) | (with_reducible refine Blk.drew ?_) | ((with_reducible refine Blk.new _ ?_); focus (first | omega | (simp; done) | (simp; omega))) | (with_reducible refine Blk.past ?_ _) | ((with_reducible refine Blk.apart ?_ _ _ _ ?_); rotate_left; focus (first | omega | (simp; done) | (simp; omega))) | (with_reducible refine Blk.by (by assumption) ?_))); done))
  have k1 : Blk w1 (w.heap.size + 1) #[.int .i64 nets, .slice b ds.length d, .slice b' ps.length d'] 31 := (by ((repeat (first | (with_reducible assumption) | (with_reducible refine Blk.drewN ?_ _) | (with_reducible refine Blk.drew ?_) | ((with_reducible refine Blk.new _ ?_); focus (first | omega | (simp; done) | (simp; omega))) | (with_reducible refine Blk.past ?_ _) | ((with_reducible refine Blk.apart ?_ _ _ _ ?_); rotate_left; focus (first | omega | (simp; done) | (simp; omega))) | (with_reducible refine Blk.by (by assumption) ?_))); done))
  have hbw : Below w.heap.size w w1 := (by ((repeat (first | (with_reducible exact Below.refl _ _) | (with_reducible refine below_drewN ?_ _) | (with_reducible refine Below.drew ?_) | (with_reducible refine below_al ?_ _) | (with_reducible refine below_on (by assumption) ?_) | ((with_reducible refine Below.setCell ?_ ?_ _); rotate_left; focus (first | omega | (simp; done) | (simp; omega))) | (with_reducible assumption))); done))
  clear hb1
  have c0 := k0.cell
  have c1 := k1.cell
  go_wp2_with fail
  refine (HP.out _ _ _ (hp.by hbw) (hp'.by hbw)).mono ?_
  rintro e w2 ⟨rfl, hb2⟩
  go_wp2
  go_ret
  exact ⟨rfl, below_on hb2 hbw⟩

/-- toNetlist, to a value that reads as the netlist. -/
theorem toNetlist_nl (v : Value) (x : Nl) (w : World) (h : NlV w v x) (hn : x.ds.length ≤ 1048576) (hpn : ∀ d ∈ x.ds, d.pins.length ≤ 1048576) (hn' : x.ps.length ≤ 1048576) :
    Calls Tryd.prog 8 #[v] w fun e w' => ∃ v', e = .returned v' ∧ NlV w' v' x ∧ Below w.heap.size w w' := by
  obtain ⟨s1, s2, rfl, hd, hp⟩ := h
  refine (toNetlist_any x.nets s1 s2 x.ds x.ps w hd hp hn hpn hn').mono ?_
  rintro e w' ⟨g, f, rfl, hG, hF, _, _, hb⟩
  exact ⟨_, rfl, ⟨_, _, rfl, hG.sl (by unfold maxLen; omega) (fun d hd => by have := hpn d hd; omega), hF.sl (by unfold maxLen; omega)⟩, hb⟩
end Go.Proofs.YtglddnkpccgchaaDoor

/- The opener of a netlist that came in. -/
namespace Go.Proofs.YtglddnkpccgchaaDoor
open Go.ChangeShapes Go.WideShapes Go.ChangeAt Go.RowKit Go.Joins Go.Deep

theorem pick_list {α : Type} (At : Nat → α → Prop) (ok : α → Prop) (len : Nat) (each : ∀ i, i < len → ∃ x, At i x ∧ ok x) : ∃ xs : List α, xs.length = len ∧ (∀ (i : Nat) x, xs[i]? = some x → At i x) ∧ ∀ r ∈ xs, ok r := by
  induction len with
  | zero => exact ⟨[], rfl, by simp, by simp⟩
  | succ n ih =>
    obtain ⟨xs, h1, h2, h3⟩ := ih (fun i hi => each i (by omega))
    obtain ⟨x, ha, ho⟩ := each n (by omega)
    refine ⟨xs ++ [x], by simp [h1], ?_, ?_⟩
    · intro i y hy
      by_cases hi : i < n
      · rw [List.getElem?_append_left (by omega)] at hy; exact h2 i y hy
      · have : i < (xs ++ [x]).length := (List.getElem?_eq_some_iff.1 hy).1
        simp [h1] at this
        obtain rfl : i = n := by omega
        rw [List.getElem?_append_right (by omega)] at hy
        simp [h1] at hy
        subst hy; exact ha
    · intro r hr
      rcases List.mem_append.1 hr with hr | hr
      · exact h3 r hr
      · simp at hr; subst hr; exact ho

/-- A netlist of package laws that came in, by value. -/
def IsNlV (W : World) (v : Value) (x : Nl) : Prop := NlV W v x ∧ Fits x.nets ∧ (∀ d ∈ x.ds, d.ok) ∧ ∀ p ∈ x.ps, p.ok
theorem cellsNl : Tryd.prog.cellsOf 25 = 3 := by kernel_rfl
theorem cellsPt : Tryd.prog.cellsOf 86 = 2 := by kernel_rfl
theorem cellsIs : Tryd.prog.cellsOf 50 = 1 := by kernel_rfl
theorem cellsI : Tryd.prog.cellsOf 2 = 1 := by kernel_rfl
theorem cellsStr : Tryd.prog.cellsOf 9 = 1 := by kernel_rfl

section
variable {H : Type} {enc : TypeId × Value → H} {W : World} {base : Nat} {spare : Nat → Bool} {held : Bool}
theorem i64_of_cell {fuel : Nat} {c : Value} {y : Option (DataW H × List MemPlace)} (h : DataW.trod enc Tryd.prog W base spare held fuel 2 [c] = y) (hy : y.isSome = true) : ∃ n : Int, c = .int .i64 n ∧ Fits n := by
  obtain ⟨z, rfl⟩ := Option.isSome_iff_exists.1 hy
  obtain ⟨n, e, _, wn⟩ := DataW.trod_int Tryd.underlying2 h
  simp at e
  exact ⟨n, e, wf_i64 wn⟩
theorem str_of_cell {fuel : Nat} {c : Value} {y : Option (DataW H × List MemPlace)} (h : DataW.trod enc Tryd.prog W base spare held fuel 9 [c] = y) (hy : y.isSome = true) : ∃ s : ByteArray, c = .string s ∧ s.size ≤ 9223372036854775807 := by
  obtain ⟨z, rfl⟩ := Option.isSome_iff_exists.1 hy
  obtain ⟨n, e, _, wn⟩ := DataW.trod_string Tryd.underlying9 h
  simp at e
  exact ⟨n, e, by unfold maxLen at wn; omega⟩
theorem isSome_of_len {α : Type} {xs : List α} {n i : Nat} (h : xs.length = n) (hi : i < n) : (xs[i]?).isSome = true := by
  rw [List.getElem?_eq_getElem (by omega)]; rfl

set_option maxRecDepth 100000 in
/-- Four cells that read as a device. -/
theorem dev_of_cells {fuel : Nat} {cs : List Value} {x : DataW H × List MemPlace}
    (h : DataW.trod enc Tryd.prog W base spare held fuel 84 cs = some x) : ∃ (d : Dv) (sv : Value), cs = [.int .i64 d.kind, sv, .int .i64 d.wd, .int .i64 d.len] ∧ IntSl W sv d.pins ∧ d.ok := by
  obtain ⟨xs, n, _, hx, hlen, hl, hg⟩ := DataW.trod_struct Tryd.underlying84 h
  rw [cellsDev] at hlen
  match cs, hlen with
  | [c0, c1, c2, c3], _ =>
    have g0 : DataW.trod enc Tryd.prog W base spare held n 2 (([c0, c1, c2, c3].drop 0).take (Tryd.prog.cellsOf 2)) = xs[0]? := hg 0 _ rfl
    have g1 : DataW.trod enc Tryd.prog W base spare held n 50 (([c0, c1, c2, c3].drop 1).take (Tryd.prog.cellsOf 50)) = xs[1]? := hg 1 _ rfl
    have g2 : DataW.trod enc Tryd.prog W base spare held n 2 (([c0, c1, c2, c3].drop 2).take (Tryd.prog.cellsOf 2)) = xs[2]? := hg 2 _ rfl
    have g3 : DataW.trod enc Tryd.prog W base spare held n 2 (([c0, c1, c2, c3].drop 3).take (Tryd.prog.cellsOf 2)) = xs[3]? := hg 3 _ rfl
    rw [cellsI] at g0 g2 g3
    rw [cellsIs] at g1
    obtain ⟨a, rfl, b0⟩ := i64_of_cell g0 (isSome_of_len hl (by decide))
    obtain ⟨b, rfl, b2⟩ := i64_of_cell g2 (isSome_of_len hl (by decide))
    obtain ⟨c, rfl, b3⟩ := i64_of_cell g3 (isSome_of_len hl (by decide))
    obtain ⟨z, hz⟩ := Option.isSome_iff_exists.1 (isSome_of_len hl (i := 1) (by decide))
    rw [hz] at g1
    obtain ⟨zs, h1, h2⟩ := ints_of_cell g1
    exact ⟨⟨a, zs, b, c⟩, c1, rfl, h1, b0, b2, b3, h2⟩

set_option maxRecDepth 100000 in
/-- Two cells that read as a port. -/
theorem port_of_cells {fuel : Nat} {cs : List Value} {x : DataW H × List MemPlace}
    (h : DataW.trod enc Tryd.prog W base spare held fuel 86 cs = some x) : ∃ p : Pt, cs = [.string p.name, .int .i64 p.net] ∧ p.ok := by
  obtain ⟨xs, n, _, hx, hlen, hl, hg⟩ := DataW.trod_struct Tryd.underlying86 h
  rw [cellsPt] at hlen
  match cs, hlen with
  | [c0, c1], _ =>
    have g0 : DataW.trod enc Tryd.prog W base spare held n 9 (([c0, c1].drop 0).take (Tryd.prog.cellsOf 9)) = xs[0]? := hg 0 _ rfl
    have g1 : DataW.trod enc Tryd.prog W base spare held n 2 (([c0, c1].drop 1).take (Tryd.prog.cellsOf 2)) = xs[1]? := hg 1 _ rfl
    rw [cellsStr] at g0
    rw [cellsI] at g1
    obtain ⟨s, rfl, b0⟩ := str_of_cell g0 (isSome_of_len hl (by decide))
    obtain ⟨a, rfl, b1⟩ := i64_of_cell g1 (isSome_of_len hl (by decide))
    exact ⟨⟨s, a⟩, rfl, b0, b1⟩

set_option maxRecDepth 100000 in
theorem devs_of_cell {fuel : Nat} {c : Value} {y : DataW H × List MemPlace} (h : DataW.trod enc Tryd.prog W base spare held fuel 22 [c] = some y) : ∃ ds : List Dv, DvSl W c ds ∧ ∀ d ∈ ds, d.ok := by
  rcases open_slice Tryd.underlying22 h with h0 | ⟨a0, len, cap, m', n', D, Pl, hcs, hb, hl, hm, hmm, hx, hi⟩
  · simp at h0
    obtain ⟨rfl, _⟩ := h0
    exact ⟨[], .inl ⟨_, _, rfl, rfl⟩, by simp⟩
  · simp at hcs
    subst hcs
    by_cases h0 : len = 0
    · subst h0
      exact ⟨[], .inl ⟨_, _, rfl, rfl⟩, by simp⟩
    · have hlm : len ≤ m' := by rw [hmm]; split <;> omega
      rw [cellsDev] at hi
      obtain ⟨b, o, spot⟩ := a0
      have hspot : spot = none := by
        obtain ⟨cs', hc, ht⟩ := hi 0 (by omega)
        obtain ⟨x, sv, rfl, _⟩ := dev_of_cells ht
        obtain ⟨_, _, hcell⟩ := World.cells?_some hc
        have e0 := World.cell?_spot (hcell 0 (by omega))
        simpa [Addr.add] using e0
      subst hspot
      have each : ∀ i, i < len → ∃ x : Dv, DvAt W b (o + i * 4) x ∧ x.ok := by
        intro i hil
        obtain ⟨cs', hc, ht⟩ := hi i (by omega)
        obtain ⟨x, sv, rfl, hS, hxok⟩ := dev_of_cells ht
        obtain ⟨_, _, hcell⟩ := World.cells?_some hc
        have e0 := hcell 0 (by omega)
        have e1 := hcell 1 (by omega)
        have e2 := hcell 2 (by omega)
        have e3 := hcell 3 (by omega)
        rw [addr_add, addr_add] at e0 e1 e2 e3
        exact ⟨x, ⟨sv, e0, e1, e2, e3, hS⟩, hxok⟩
      obtain ⟨xs, x1, x2, x3⟩ := pick_list (fun i => DvAt W b (o + i * 4)) Dv.ok len each
      exact ⟨xs, .inr ⟨b, o, cap, by rw [x1], by rw [x1]; exact hl, hm, x2⟩, x3⟩

set_option maxRecDepth 100000 in
theorem ports_of_cell {fuel : Nat} {c : Value} {y : DataW H × List MemPlace} (h : DataW.trod enc Tryd.prog W base spare held fuel 23 [c] = some y) : ∃ ps : List Pt, PtSl W c ps ∧ ∀ d ∈ ps, d.ok := by
  rcases open_slice Tryd.underlying23 h with h0 | ⟨a0, len, cap, m', n', D, Pl, hcs, hb, hl, hm, hmm, hx, hi⟩
  · simp at h0
    obtain ⟨rfl, _⟩ := h0
    exact ⟨[], .inl ⟨_, _, rfl, rfl⟩, by simp⟩
  · simp at hcs
    subst hcs
    by_cases h0 : len = 0
    · subst h0
      exact ⟨[], .inl ⟨_, _, rfl, rfl⟩, by simp⟩
    · have hlm : len ≤ m' := by rw [hmm]; split <;> omega
      rw [cellsPt] at hi
      obtain ⟨b, o, spot⟩ := a0
      have hspot : spot = none := by
        obtain ⟨cs', hc, ht⟩ := hi 0 (by omega)
        obtain ⟨x, rfl, _⟩ := port_of_cells ht
        obtain ⟨_, _, hcell⟩ := World.cells?_some hc
        have e0 := World.cell?_spot (hcell 0 (by omega))
        simpa [Addr.add] using e0
      subst hspot
      have each : ∀ i, i < len → ∃ x : Pt, PtAt W b (o + i * 2) x ∧ x.ok := by
        intro i hil
        obtain ⟨cs', hc, ht⟩ := hi i (by omega)
        obtain ⟨x, rfl, hxok⟩ := port_of_cells ht
        obtain ⟨_, _, hcell⟩ := World.cells?_some hc
        have e0 := hcell 0 (by omega)
        have e1 := hcell 1 (by omega)
        rw [addr_add, addr_add] at e0 e1
        exact ⟨x, ⟨e0, e1⟩, hxok⟩
      obtain ⟨xs, x1, x2, x3⟩ := pick_list (fun i => PtAt W b (o + i * 2)) Pt.ok len each
      exact ⟨xs, .inr ⟨b, o, cap, by rw [x1], by rw [x1]; exact hl, hm, x2⟩, x3⟩
end

set_option maxRecDepth 100000 in
theorem opened_nl {H : Type} {enc : TypeId × Value → H} {W : World} {base b0 : Nat} {r : Reach} {spare : Nat → Bool} {held : Bool} {v : Value} {d : DataW H} {p : List MemPlace}
    (hv : Value.okWide Tryd.prog W r b0 25 v) (h : DataW.Trod enc Tryd.prog W base spare held 25 v d p) : ∃ x, IsNlV W v x := by
  obtain ⟨c0, c1, c2, y0, y1, y2, m, rfl, rfl, rfl, hy0, hy1, hy2⟩ := open_agg3 Tryd.underlying25 (by kernel_rfl) cellsNl hv h
  obtain ⟨a, e0, _, wa⟩ := DataW.trod_int Tryd.underlying2 hy0
  simp at e0
  subst e0
  obtain ⟨ds, h1, h2⟩ := devs_of_cell hy1
  obtain ⟨ps, h3, h4⟩ := ports_of_cell hy2
  exact ⟨⟨a, ds, ps⟩, ⟨_, _, rfl, h1, h3⟩, wf_i64 wa, h2, h4⟩
end Go.Proofs.YtglddnkpccgchaaDoor

/- Small laws on netlists for the walks of the statements. -/
namespace Go.Proofs.YtglddnkpccgchaaDoor
open Go.RowKit
theorem mem_pinsAll (xs : List Dv) (d : Dv) (h : d ∈ xs) : (d.pins.length : Int) ≤ pinsAll xs := by
  induction xs with
  | nil => simp at h
  | cons y ys ih =>
    have h0 := pinsAll_nonneg ys
    rcases List.mem_cons.1 h with rfl | h
    · simp only [pinsAll]; omega
    · have := ih h; simp only [pinsAll]; omega
theorem nlSize_bounds {x : Nl} (h : ¬ (1048576 : Int) < nlSize x.ds x.ps) : x.ds.length ≤ 1048576 ∧ (∀ d ∈ x.ds, d.pins.length ≤ 1048576) ∧ x.ps.length ≤ 1048576 := by
  unfold nlSize at h
  have h1 := pinsAll_nonneg x.ds
  have h2 := namesAll_nonneg x.ps
  refine ⟨by omega, fun d hd => ?_, by omega⟩
  have := mem_pinsAll x.ds d hd
  omega
theorem nlSize_nonneg (x : Nl) : 0 ≤ nlSize x.ds x.ps := by
  unfold nlSize
  have h1 := pinsAll_nonneg x.ds
  have h2 := namesAll_nonneg x.ps
  omega
theorem NlV.sized {w : World} {v : Value} {x : Nl} (h : NlV w v x) : ∃ a c a' c', v = .agg #[.int .i64 x.nets, .slice a x.ds.length c, .slice a' x.ps.length c'] := by
  obtain ⟨s1, s2, rfl, hd, hp⟩ := h
  obtain ⟨a, c, rfl⟩ := hd.sized
  obtain ⟨a', c', rfl⟩ := hp.sized
  exact ⟨a, c, a', c', rfl⟩
/-- szNetlist of a netlist as it came in. -/
theorem szNl_any (v : Value) (x : Nl) (l : Int) (w : World) (h : NlV w v x) (hok : ∀ p ∈ x.ps, p.ok) (hl : 0 ≤ l) (hl' : l ≤ 1048576) :
    Calls Tryd.prog 6 #[v, .int .i64 l] w fun e w' => e = .returned (.int .i64 (if l < nlSize x.ds x.ps then -1 else l - nlSize x.ds x.ps)) ∧ Below w.heap.size w w' := by
  obtain ⟨s1, s2, rfl, hd, hp⟩ := h
  exact szNetlist_any x.nets s1 s2 x.ds x.ps l w hd hp hok hl hl'
end Go.Proofs.YtglddnkpccgchaaDoor
