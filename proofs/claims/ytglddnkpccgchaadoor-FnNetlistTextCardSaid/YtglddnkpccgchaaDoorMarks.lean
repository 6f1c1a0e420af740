/- markText: what it answers hangs on the number alone. -/
import Derived.Test.YtglddnkpccgchaaDoorBase
import Derived.Laws.BytesArg
import Derived.WalkLawsBesides
import Derived.Test.YtglddnkpccgchaaDoorNormB
import Derived.Test.YtglddnkpccgchaaDoorNls
namespace Go.Proofs.YtglddnkpccgchaaDoor
open Go.RowKit
set_option linter.unusedVariables false
set_option linter.unusedSimpArgs false

/-- The digits of k ahead of a text. -/
def dgF : Nat → Nat → ByteArray → ByteArray
  | 0, _, s => s
  | f + 1, k, s => if k = 0 then s else dgF f (k / 10) (strOfNums [((48 + k % 10 : Nat) : Int)] ++ s)
def mtxt (k : Nat) : ByteArray := ⟨#[109]⟩ ++ dgF k k ⟨#[]⟩
theorem size_one (v : Int) : (strOfNums [v]).size = 1 := by simp [strOfNums, ByteArray.size]
theorem dgF_end (f : Nat) (s : ByteArray) : dgF f 0 s = s := by cases f <;> simp [dgF]
theorem dgF_step (f k : Nat) (s : ByteArray) (h : 0 < k) (hf : k ≤ f) : ∃ f', k / 10 ≤ f' ∧ dgF f k s = dgF f' (k / 10) (strOfNums [((48 + k % 10 : Nat) : Int)] ++ s) := by
  cases f with
  | zero => omega
  | succ f =>
    refine ⟨f, by omega, ?_⟩
    have : ¬ k = 0 := by omega
    simp [dgF, this]

set_option maxRecDepth 100000 in
set_option maxHeartbeats 1000000 in
theorem markText_any (k : Nat) (w : World) (hk : 0 < k) (hk' : k ≤ 1000000000000) :
    Calls Tryd.prog 73 #[.int .i64 (k : Int)] w fun e w' => e = .returned (.string (mtxt k)) ∧ Below w.heap.size w w' := by
  have hcv : ∀ (W : World) (v : Int), (convert 39 9 (.slice (some ⟨W.heap.size, 0, none⟩) 1 1)).run Tryd.prog (W.alloc (.cells #[.int .u8 v] 5)) = .ok (.string (strOfNums [v])) (W.alloc (.cells #[.int .u8 v] 5)) := by
    intro W v
    have hcell : ∀ i, i < 1 → (W.alloc (.cells #[.int .u8 v] 5)).cell? ⟨W.heap.size, 0 + i, none⟩ = some (.int .u8 ([v].getD i 0)) := by
      intro i hi
      obtain rfl : i = 0 := by omega
      rw [(Blk.new W.heap.size rfl).cell]; rfl
    exact run_convert_bytes_arg _ 39 5 Tryd.underlying39 Tryd.underlying5 W.heap.size 0 1 1 [v] rfl hcell 9 Tryd.underlying9
  have HM := Lib.hid (show mtxt k = ⟨#[109]⟩ ++ dgF k k ⟨#[]⟩ from rfl)
  obtain ⟨R, hR⟩ : ∃ R, dgF k k ⟨#[]⟩ = R := ⟨_, rfl⟩
  have HR := Lib.hid hR
  rw [hR] at HM
  clear hR
  generalize mtxt k = mt at *
  have hk0 : decide (k = 0) = false := by rw [decide_eq_false_iff_not]; omega
  go_enter Tryd.func73, Tryd.ntmps73
  go_wp2
  go_loopw [0, 3] (fun a s wr => ∃ (j f : Nat) (t : ByteArray), a = .int .i64 (j : Int) ∧ j ≤ k ∧ s = .string t ∧ t.size + j ≤ k ∧ Hid (j ≤ f ∧ dgF f j t = R) ∧ Below w.heap.size w wr) (fun a _ _ => (intOf a).toNat)
  case atStart => exact ⟨k, k, ⟨#[]⟩, rfl, Nat.le_refl _, rfl, by simp [ByteArray.size], Lib.hid ⟨Nat.le_refl _, HR.out⟩, (by ((repeat (first | (with_reducible exact Below.refl _ _) | (with_reducible refine below_drewN ?_ _) | (with_reducible refine Below.drew ?_) | (with_reducible refine below_al ?_ _) | (with_reducible refine below_on (by assumption) ?_) | ((with_reducible refine Below.setCell ?_ ?_ _); rotate_left; focus (first | omega | (simp; done) | (simp; omega))) | (with_reducible assumption))); done))⟩
  case round =>
    obtain ⟨j, f, t, rfl, hjk, rfl, hts, HI, hb⟩ := hrel
    by_cases hj : 0 < j
    · have h1 : (0 : Int) ≤ (j : Int) % 10 := by omega
      have h2 : (j : Int) % 10 < 10 := by omega
      have hw : IntKind.u8.wrap (48 + (j : Int) % 10) = 48 + (j : Int) % 10 := by simp [IntKind.wrap, IntKind.bits, IntKind.signed]; omega
      have hs1 : (strOfNums [48 + (j : Int) % 10]).size + t.size ≤ 9223372036854775807 := by rw [size_one]; omega
      have hs2 : ¬ 9223372036854775807 < (strOfNums [48 + (j : Int) % 10]).size + t.size := by omega
      go_wp2
      obtain ⟨f', hf', he⟩ := dgF_step f j t hj HI.out.1
      refine ⟨⟨j / 10, f', strOfNums [48 + (j : Int) % 10] ++ t, by simp, by omega, rfl, by rw [ByteArray.size_append, size_one]; omega, Lib.hid ⟨hf', ?_⟩, (by ((repeat (first | (with_reducible exact Below.refl _ _) | (with_reducible refine below_drewN ?_ _) | (with_reducible refine Below.drew ?_) | (with_reducible refine below_al ?_ _) | (with_reducible refine below_on (by assumption) ?_) | ((with_reducible refine Below.setCell ?_ ?_ _); rotate_left; focus (first | omega | (simp; done) | (simp; omega))) | (with_reducible assumption))); done))⟩, by simp [intOf]; omega⟩
      have := HI.out.2
      rw [he] at this
      rw [← this]
      congr 3
    · obtain rfl : j = 0 := by omega
      have hs2 : ¬ 9223372036854775807 < 1 + t.size := by omega
      go_wp2
      go_ret
      exact ⟨by rw [HM.out, ← HI.out.2, dgF_end]; rfl, hb⟩
end Go.Proofs.YtglddnkpccgchaaDoor

/- Slices of devices and of ports in memory of the call's own. -/
namespace Go.Proofs.YtglddnkpccgchaaDoor
open Go.RowKit
set_option linter.unusedVariables false
set_option linter.unusedSimpArgs false

/-- A slice of devices, all of whose memory lies in blocks from lo on and below hi, the pins of each in a block of its own. -/
def OwnDs (w : World) (lo hi : Nat) (sv : Value) (ds : List Dv) : Prop :=
  (∃ a c, sv = .slice a 0 c ∧ ds = []) ∨ ∃ (g cap : Nat) (cs : Array Value) (f : Nat → Nat), sv = .slice (some ⟨g, 0, none⟩) ds.length cap ∧ (lo ≤ g ∧ g < hi) ∧ ds.length ≤ cap ∧ cap ≤ maxLen ∧ Blk w g cs 52 ∧
    (∀ (i : Nat) (x : Dv), ds[i]? = some x → (∃ pv, Cs4 cs i (.int .i64 x.kind) pv (.int .i64 x.wd) (.int .i64 x.len) ∧ OwnR w (f i) (f i + 1) pv x.pins) ∧ (lo ≤ f i ∧ f i < hi ∧ f i ≠ g)) ∧ (∀ i j, i < ds.length → j < ds.length → i ≠ j → f i ≠ f j)
/-- A slice of ports, all of whose memory lies in blocks from lo on and below hi. -/
def OwnPs (w : World) (lo hi : Nat) (sv : Value) (ps : List Pt) : Prop :=
  (∃ a c, sv = .slice a 0 c ∧ ps = []) ∨ ∃ (g cap : Nat) (cs : Array Value), sv = .slice (some ⟨g, 0, none⟩) ps.length cap ∧ (lo ≤ g ∧ g < hi) ∧ ps.length ≤ cap ∧ cap ≤ maxLen ∧ Blk w g cs 49 ∧
    (∀ (i : Nat) (x : Pt), ps[i]? = some x → Cs2 cs i (.string x.name) (.int .i64 x.net))
section
variable {w w' : World} {lo hi lo' hi' : Nat} {sv : Value} {ds : List Dv} {ps : List Pt}
theorem OwnDs.by (hb : Below w.heap.size w w') (h : OwnDs w lo hi sv ds) : OwnDs w' lo hi sv ds := by
  rcases h with h | ⟨g, cap, cs, f, h1, h2, h3, h4, h5, h6, h7⟩
  · exact .inl h
  · refine .inr ⟨g, cap, cs, f, h1, h2, h3, h4, Blk.by hb h5, fun i x hx => ?_, h7⟩
    obtain ⟨⟨pv, a, b⟩, c⟩ := h6 i x hx
    exact ⟨⟨pv, a, OwnR.by hb b⟩, c⟩
theorem OwnPs.by (hb : Below w.heap.size w w') (h : OwnPs w lo hi sv ps) : OwnPs w' lo hi sv ps := by
  rcases h with h | ⟨g, cap, cs, h1, h2, h3, h4, h5, h6⟩
  · exact .inl h
  · exact .inr ⟨g, cap, cs, h1, h2, h3, h4, Blk.by hb h5, h6⟩
theorem OwnDs.past (hb : Within lo' hi' w w') (h : OwnDs w lo hi sv ds) (hd : hi ≤ lo' ∨ hi' ≤ lo) : OwnDs w' lo hi sv ds := by
  rcases h with h | ⟨g, cap, cs, f, h1, h2, h3, h4, h5, h6, h7⟩
  · exact .inl h
  · refine .inr ⟨g, cap, cs, f, h1, h2, h3, h4, hb.blk h5 (by omega), fun i x hx => ?_, h7⟩
    obtain ⟨⟨pv, a, b⟩, c⟩ := h6 i x hx
    exact ⟨⟨pv, a, OwnR.past hb b (by omega)⟩, c⟩
theorem OwnPs.past (hb : Within lo' hi' w w') (h : OwnPs w lo hi sv ps) (hd : hi ≤ lo' ∨ hi' ≤ lo) : OwnPs w' lo hi sv ps := by
  rcases h with h | ⟨g, cap, cs, h1, h2, h3, h4, h5, h6⟩
  · exact .inl h
  · exact .inr ⟨g, cap, cs, h1, h2, h3, h4, hb.blk h5 (by omega), h6⟩
theorem OwnDs.wide (h : OwnDs w lo hi sv ds) (h1 : lo' ≤ lo) (h2 : hi ≤ hi') : OwnDs w lo' hi' sv ds := by
  rcases h with h | ⟨g, cap, cs, f, e1, e2, e3, e4, e5, e6, e7⟩
  · exact .inl h
  · refine .inr ⟨g, cap, cs, f, e1, by omega, e3, e4, e5, fun i x hx => ?_, e7⟩
    obtain ⟨a, b⟩ := e6 i x hx
    exact ⟨a, by omega⟩
theorem OwnPs.wide (h : OwnPs w lo hi sv ps) (h1 : lo' ≤ lo) (h2 : hi ≤ hi') : OwnPs w lo' hi' sv ps := by
  rcases h with h | ⟨g, cap, cs, e1, e2, e3, e4, e5, e6⟩
  · exact .inl h
  · exact .inr ⟨g, cap, cs, e1, by omega, e3, e4, e5, e6⟩
theorem OwnDs.sl (h : OwnDs w lo hi sv ds) : DvSl w sv ds := by
  rcases h with h | ⟨g, cap, cs, f, h1, h2, h3, h4, h5, h6, h7⟩
  · exact .inl h
  · refine .inr ⟨g, 0, cap, h1, h3, h4, fun i x hx => ?_⟩
    obtain ⟨⟨pv, ⟨e1, e2, e3, e4⟩, b⟩, c⟩ := h6 i x hx
    have hc := h5.cell
    simp only [Nat.zero_add]
    exact ⟨pv, by rw [hc]; exact e1, by rw [hc]; exact e2, by rw [hc]; exact e3, by rw [hc]; exact e4, b.sl⟩
theorem OwnPs.sl (h : OwnPs w lo hi sv ps) : PtSl w sv ps := by
  rcases h with h | ⟨g, cap, cs, h1, h2, h3, h4, h5, h6⟩
  · exact .inl h
  · refine .inr ⟨g, 0, cap, h1, h3, h4, fun i x hx => ?_⟩
    obtain ⟨e1, e2⟩ := h6 i x hx
    have hc := h5.cell
    simp only [Nat.zero_add]
    exact ⟨by rw [hc]; exact e1, by rw [hc]; exact e2⟩
end

/-- What a device, a slice of devices, of ports takes up in marks. -/
def dsum : List Dv → Int
  | [] => 0
  | d :: ds => 3 + d.pins.length + dsum ds
theorem dsum_nonneg : ∀ ds : List Dv, 0 ≤ dsum ds
  | [] => by simp [dsum]
  | d :: ds => by have := dsum_nonneg ds; simp only [dsum]; omega
theorem dsum_take (ds : List Dv) (k : Nat) (d : Dv) (h : ds[k]? = some d) : dsum (ds.take (k + 1)) = dsum (ds.take k) + (3 + d.pins.length) := by
  induction ds generalizing k with
  | nil => simp at h
  | cons y ys ih =>
    cases k with
    | zero => simp at h; subst h; simp [dsum]
    | succ k => simp at h; have := ih k h; simp only [List.take_succ_cons, dsum]; omega
theorem dsum_mono (ds : List Dv) (k : Nat) : dsum (ds.take k) ≤ dsum ds := by
  induction ds generalizing k with
  | nil => simp
  | cons y ys ih =>
    cases k with
    | zero => simp [dsum]; have := dsum_nonneg ys; omega
    | succ k => have := ih k; simp only [List.take_succ_cons, dsum]; omega
/-- A marked device. -/
def mkd (k : Int) (n : Nat) : Dv := ⟨k, marks (k + 1) n, k + 1 + n, k + 2 + n⟩
def markDs (k : Int) : List Dv → List Dv
  | [] => []
  | d :: ds => mkd k d.pins.length :: markDs (k + (3 + d.pins.length)) ds
theorem length_markDs (k : Int) (ds : List Dv) : (markDs k ds).length = ds.length := by
  induction ds generalizing k with
  | nil => rfl
  | cons d ds ih => simp [markDs, ih]
theorem markDs_get (k : Int) (ds : List Dv) (i : Nat) (d : Dv) (h : ds[i]? = some d) : (markDs k ds)[i]? = some (mkd (k + dsum (ds.take i)) d.pins.length) := by
  induction ds generalizing k i with
  | nil => simp at h
  | cons y ys ih =>
    cases i with
    | zero => simp at h; subst h; simp [markDs, dsum]
    | succ i =>
      simp at h
      simp only [markDs, List.getElem?_cons_succ, List.take_succ_cons, dsum]
      rw [ih _ i h]; congr 2; omega
theorem markDs_inv (k : Int) (ds : List Dv) (i : Nat) (y : Dv) (h : (markDs k ds)[i]? = some y) : ∃ d, ds[i]? = some d ∧ y = mkd (k + dsum (ds.take i)) d.pins.length := by
  have hi : i < ds.length := by have := (List.getElem?_eq_some_iff.1 h).1; rwa [length_markDs] at this
  refine ⟨ds[i], List.getElem?_eq_getElem hi, ?_⟩
  rw [markDs_get k ds i ds[i] (List.getElem?_eq_getElem hi)] at h
  exact (Option.some.inj h).symm
end Go.Proofs.YtglddnkpccgchaaDoor

/- markDeviceS and heldDeviceS. -/
namespace Go.Proofs.YtglddnkpccgchaaDoor
open Go.RowKit
set_option linter.unusedVariables false
set_option linter.unusedSimpArgs false

theorem Within.sub {lo hi lo' hi' : Nat} {w w' : World} (h : Within lo hi w w') (h1 : lo' ≤ lo) (h2 : hi ≤ hi') : Within lo' hi' w w' := ⟨h.os, h.tape, h.output, h.size, fun k hk hk' => h.block k hk (by omega)⟩

def set3 (cs : Array Value) (k : Nat) (u v z : Value) : Array Value := ((cs.setIfInBounds (k * 4) u).setIfInBounds (k * 4 + 2) v).setIfInBounds (k * 4 + 3) z
theorem set3_other {cs : Array Value} {j k : Nat} {a b c d : Value} (u v z : Value) (hne : j ≠ k) (h : Cs4 cs j a b c d) : Cs4 (set3 cs k u v z) j a b c d := by
  obtain ⟨h1, h2, h3, h4⟩ := h
  refine ⟨?_, ?_, ?_, ?_⟩ <;> simp only [set3, Array.getElem?_setIfInBounds, Array.size_setIfInBounds] <;> (repeat rw [if_neg (by omega)]) <;> assumption
theorem set3_same {cs : Array Value} {k : Nat} {b : Value} (u v z : Value) (hb : cs[k * 4 + 1]? = some b) (hs : k * 4 + 3 < cs.size) : Cs4 (set3 cs k u v z) k u b v z := by
  refine ⟨?_, ?_, ?_, ?_⟩ <;> simp only [set3, Array.getElem?_setIfInBounds, Array.size_setIfInBounds] <;> repeat (first | rw [if_pos trivial] | rw [if_pos (by omega)] | rw [if_neg (by omega)] | assumption)

set_option maxRecDepth 100000 in
set_option maxHeartbeats 4000000 in
theorem markDeviceS_any (lo hi : Nat) (sv : Value) (ds : List Dv) (k0 : Int) (w : World) (h : OwnDs w lo hi sv ds) (hpn : ∀ d ∈ ds, d.pins.length ≤ 1048576) (hk : 0 ≤ k0) (hk' : k0 + dsum ds ≤ 1000000000000) :
    Calls Tryd.prog 38 #[sv, .int .i64 k0] w fun e w' => e = .returned (.int .i64 (k0 + dsum ds)) ∧ OwnDs w' lo hi sv (markDs k0 ds) ∧ Within lo hi w w' := by
  rcases h with ⟨a, c, rfl, rfl⟩ | ⟨g, cap, cs0, f, rfl, hg, hcap, hmax, hB0, hel, hinj⟩
  · go_enter Tryd.func38, Tryd.ntmps38
    go_wp2
    go_loopw [1, 5] (fun v i wr => i = .int .i64 0 ∧ v = .int .i64 k0 ∧ wr = w) (fun _ _ _ => 0)
    case atStart => exact ⟨rfl, rfl, rfl⟩
    case round =>
      obtain ⟨rfl, rfl, rfl⟩ := hrel
      go_wp2
      go_ret
      exact ⟨ret_i64 (by simp [dsum]), .inl ⟨_, _, rfl, rfl⟩, Within.refl _ _ _⟩
  · unfold maxLen at hmax
    have HPN := Lib.hid hpn
    have HEL := Lib.hid hel
    have HINJ := Lib.hid hinj
    have HDT := Lib.hid (dsum_take ds)
    have HDM := Lib.hid (dsum_mono ds)
    have HD0 := Lib.hid (fun k => dsum_nonneg (ds.take k))
    have HDF := Lib.hid (show dsum (ds.take ds.length) = dsum ds by rw [List.take_length])
    have HM := Lib.hid (markDs_inv k0 ds)
    have HLM := Lib.hid (length_markDs k0 ds)
    clear hpn hel hinj
    go_enter Tryd.func38, Tryd.ntmps38
    go_wp2
    go_loopw [1, 5] (fun v i wr => ∃ k : Nat, k ≤ ds.length ∧ i = .int .i64 k ∧ (∃ s : Int, v = .int .i64 s ∧ s = k0 + dsum (ds.take k)) ∧
      (∃ cs : Array Value, Blk wr g cs 52 ∧ Hid (∀ (j : Nat) (x : Dv), ds[j]? = some x → (j < k → ∃ pv, Cs4 cs j (.int .i64 (k0 + dsum (ds.take j))) pv (.int .i64 (k0 + dsum (ds.take j) + 1 + x.pins.length)) (.int .i64 (k0 + dsum (ds.take j) + 2 + x.pins.length)) ∧ OwnR wr (f j) (f j + 1) pv (marks (k0 + dsum (ds.take j) + 1) x.pins.length)) ∧ (k ≤ j → ∃ pv, Cs4 cs j (.int .i64 x.kind) pv (.int .i64 x.wd) (.int .i64 x.len) ∧ OwnR wr (f j) (f j + 1) pv x.pins))) ∧ Within lo hi w wr) (fun _ i _ => ds.length - (intOf i).toNat)
    case atStart => exact ⟨0, Nat.zero_le _, rfl, ⟨k0, rfl, by simp [dsum]⟩, ⟨cs0, hB0, Lib.hid (fun j x hx => ⟨fun h => by omega, fun _ => (HEL.out j x hx).1⟩)⟩, Within.refl _ _ _⟩
    case round =>
      obtain ⟨k, hkl, rfl, ⟨s, rfl, hs⟩, ⟨cs, hB, HO⟩, ho⟩ := hrel
      by_cases hlt : k < ds.length
      · obtain ⟨x, hx⟩ : ∃ x, ds[k]? = some x := ⟨ds[k], List.getElem?_eq_getElem hlt⟩
        have hxl : x.pins.length ≤ 1048576 := HPN.out x (List.mem_of_getElem? hx)
        obtain ⟨pv, ⟨c0, c1, c2, c3⟩, hOR⟩ := (HO.out k x hx).2 (Nat.le_refl _)
        obtain ⟨hf1, hf2, hf3⟩ := (HEL.out k x hx).2
        have hst := HDT.out k x hx
        have hsm := HDM.out (k + 1)
        have hs0 := HD0.out k
        have HX := Lib.hid hx
        have HS := Lib.hid hs
        have HST := Lib.hid hst
        have hsb : 0 ≤ s := by omega
        have hsb' : s + 3 + x.pins.length ≤ 1000000000000 := by omega
        have HMK := Lib.hid (fun w h => markR_any (f k) (f k + 1) pv x.pins (s + 1) w h hxl (by omega) (by omega))
        have hBf := hB.free
        have hBc := hB.cell
        have hz : k * 4 + 3 < cs.size := (Array.getElem?_eq_some_iff.1 c3).1
        have i1 : (0 : Int) ≤ (k : Int) := by omega
        have i2 : (k : Int) < (ds.length : Int) := by omega
        have HOR := Lib.hid hOR
        obtain ⟨ap, cp, rfl⟩ := hOR.sl.len
        obtain ⟨t, ht⟩ : ∃ t : Int, s + 1 + x.pins.length = t := ⟨_, rfl⟩
        rw [ht] at HMK
        have HT := Lib.hid ht
        have ht0 : 0 ≤ t := by omega
        have ht1 : t + 2 ≤ 1000000000000 := by omega
        have hb1 := hB.set (k * 4) (.int .i64 s)
        have hO1 : OwnR (wr.setCell ⟨g, k * 4, none⟩ (.int .i64 s)) (f k) (f k + 1) (.slice ap x.pins.length cp) x.pins := HOR.out.past (Within.set (Within.refl g (g + 1) wr) g (k * 4) (.int .i64 s) (Nat.le_refl _) (by omega)) (by omega)
        have HO1 := Lib.hid hO1
        clear hx hs hst hOR hO1 ht
        go_wp2_with fail
        refine (HMK.out _ HO1.out).mono ?_
        rintro e w1 ⟨rfl, hO2, hw1⟩
        have hb2 := hw1.blk hb1 (by omega)
        have e2 := hb2.cell
        have f2 := hb2.free
        have HO2 := Lib.hid hO2
        have HW1 := Lib.hid hw1
        clear hO2 hw1 hBc hBf
        go_wp2
        have w3 : Within lo hi w (w1.setCell ⟨g, k * 4 + 2, none⟩ (.int .i64 t)) := ((ho.set g (k * 4) (.int .i64 s) hg.1 hg.2).on (HW1.out.sub hf1 (by omega))).set g _ _ hg.1 hg.2
        have hmv : ∀ (j : Nat) (pv : Value) (zs : List Int), j < ds.length → j ≠ k → f j ≠ g → OwnR wr (f j) (f j + 1) pv zs → OwnR ((w1.setCell ⟨g, k * 4 + 2, none⟩ (.int .i64 t)).setCell ⟨g, k * 4 + 3, none⟩ (.int .i64 (t + 1))) (f j) (f j + 1) pv zs := by
          intro j pv zs hj hjk hjg hR
          have hne := HINJ.out j k hj hlt hjk
          have r1 := hR.past (Within.set (Within.refl g (g + 1) wr) g (k * 4) (.int .i64 s) (Nat.le_refl _) (by omega)) (by omega)
          have r2 := r1.past HW1.out (by omega)
          have r3 := r2.past (Within.set (Within.refl g (g + 1) w1) g (k * 4 + 2) (.int .i64 t) (Nat.le_refl _) (by omega)) (by omega)
          exact r3.past (Within.set (Within.refl g (g + 1) _) g (k * 4 + 3) (.int .i64 (t + 1)) (Nat.le_refl _) (by omega)) (by omega)
        refine ⟨⟨k + 1, by omega, by go_num, ⟨t + 1 + 1, rfl, by have := HS.out; have := HST.out; have := HT.out; omega⟩, ⟨set3 cs k (.int .i64 s) (.int .i64 t) (.int .i64 (t + 1)), (hb2.set _ _).set _ _, Lib.hid (fun j y hy => ⟨fun hj => ?_, fun hj => ?_⟩)⟩, w3.set g _ _ hg.1 hg.2⟩, by simp [intOf]; omega⟩
        · have hjl : j < ds.length := (List.getElem?_eq_some_iff.1 hy).1
          by_cases hjk : j = k
          · subst hjk
            obtain rfl : y = x := Option.some.inj (hy.symm.trans HX.out)
            have e1 := HS.out
            have e2 := HT.out
            rw [← e1]
            have e3 : s + 1 + (y.pins.length : Int) = t := e2
            have e4 : s + 2 + (y.pins.length : Int) = t + 1 := by omega
            rw [e3, e4]
            refine ⟨.slice ap y.pins.length cp, set3_same _ _ _ c1 hz, ?_⟩
            have r3 := HO2.out.past (Within.set (Within.refl g (g + 1) w1) g (j * 4 + 2) (.int .i64 t) (Nat.le_refl _) (by omega)) (by omega)
            exact r3.past (Within.set (Within.refl g (g + 1) _) g (j * 4 + 3) (.int .i64 (t + 1)) (Nat.le_refl _) (by omega)) (by omega)
          · obtain ⟨pv, hC, hR⟩ := (HO.out j y hy).1 (by omega)
            exact ⟨pv, set3_other _ _ _ hjk hC, hmv j pv _ hjl hjk (HEL.out j y hy).2.2.2 hR⟩
        · have hjl : j < ds.length := (List.getElem?_eq_some_iff.1 hy).1
          have hjk : j ≠ k := by omega
          obtain ⟨pv, hC, hR⟩ := (HO.out j y hy).2 (by omega)
          exact ⟨pv, set3_other _ _ _ hjk hC, hmv j pv _ hjl hjk (HEL.out j y hy).2.2.2 hR⟩
      · obtain rfl : k = ds.length := by omega
        go_wp2
        go_ret
        refine ⟨ret_i64 (by rw [hs, HDF.out]), .inr ⟨g, cap, cs, f, by rw [HLM.out], hg, by rw [HLM.out]; exact hcap, by unfold maxLen; exact hmax, hB, fun i y hy => ?_, fun i j hi hj hij => HINJ.out i j (by rwa [HLM.out] at hi) (by rwa [HLM.out] at hj) hij⟩, ho⟩
        obtain ⟨d, hd, rfl⟩ := HM.out i y hy
        obtain ⟨pv, hC, hR⟩ := (HO.out i d hd).1 (List.getElem?_eq_some_iff.1 hd).1
        exact ⟨⟨pv, hC, hR⟩, (HEL.out i d hd).2⟩

set_option maxRecDepth 100000 in
set_option maxHeartbeats 4000000 in
theorem heldDeviceS_any (sv : Value) (ds : List Dv) (k0 : Int) (w : World) (h : DvSl w sv (markDs k0 ds)) (hpn : ∀ d ∈ ds, d.pins.length ≤ 1048576) (hk : 0 ≤ k0) (hk' : k0 + dsum ds ≤ 1000000000000) :
    Calls Tryd.prog 40 #[sv, .int .i64 k0] w fun e w' => e = .returned (.int .i64 (k0 + dsum ds)) ∧ ∃ m, w' = w.drewN m := by
  have hlm := length_markDs k0 ds
  have HPN := Lib.hid hpn
  have HDT := Lib.hid (dsum_take ds)
  have HDM := Lib.hid (dsum_mono ds)
  have HD0 := Lib.hid (fun k => dsum_nonneg (ds.take k))
  have HDF := Lib.hid (show dsum (ds.take ds.length) = dsum ds by rw [List.take_length])
  have HG := Lib.hid (fun i d h => markDs_get k0 ds i d h)
  have HH := Lib.hid h
  have hdl : (markDs k0 ds).length ≤ 9223372036854775807 := by
    rcases h with ⟨_, _, _, h2⟩ | ⟨b, off, cap, h1, h2, h3, _⟩
    · rw [h2]; simp
    · unfold maxLen at h3; omega
  obtain ⟨a, c, rfl⟩ := h.sized
  rw [hlm] at hdl ⊢
  clear h hlm hpn
  go_enter Tryd.func40, Tryd.ntmps40
  go_wp2
  go_loopw [1, 5] (fun v i wr => ∃ k m : Nat, k ≤ ds.length ∧ i = .int .i64 k ∧ (∃ s : Int, v = .int .i64 s ∧ s = k0 + dsum (ds.take k)) ∧ wr = w.drewN m) (fun _ i _ => ds.length - (intOf i).toNat)
  case atStart => exact ⟨0, 0, Nat.zero_le _, rfl, ⟨k0, rfl, by simp [dsum]⟩, rfl⟩
  case round =>
    obtain ⟨k, m, hkl, rfl, ⟨s, rfl, hs⟩, rfl⟩ := hrel
    by_cases hlt : k < ds.length
    · obtain ⟨x, hx⟩ : ∃ x, ds[k]? = some x := ⟨ds[k], List.getElem?_eq_getElem hlt⟩
      have hxl : x.pins.length ≤ 1048576 := HPN.out x (List.mem_of_getElem? hx)
      have hm := HG.out k x hx
      rw [← hs] at hm
      have HHS := HH.out
      rcases HHS with ⟨_, _, e1, e2⟩ | ⟨b, off, cap, he, h2, h3, h4⟩
      · rw [e2] at hm; simp at hm
      obtain ⟨sp, d1, d2, d3, d4, hS⟩ := h4 k _ hm
      obtain ⟨rfl, rfl⟩ : a = some ⟨b, off, none⟩ ∧ c = cap := by simpa [length_markDs] using he
      simp only [mkd] at d1 d2 d3 d4 hS
      have hst := HDT.out k x hx
      have hsm := HDM.out (k + 1)
      have hs0 := HD0.out k
      have HS := Lib.hid hs
      have HST := Lib.hid hst
      have hsb : 0 ≤ s := by omega
      have hsb' : s + 3 + x.pins.length ≤ 1000000000000 := by omega
      have HHL := Lib.hid (fun w h => heldInt64S_any sp x.pins.length (s + 1) w h hxl (by omega) (by omega))
      have HSP := Lib.hid (hS.by (below_of_drewN w m))
      have i1 : (0 : Int) ≤ (k : Int) := by omega
      have i2 : (k : Int) < (ds.length : Int) := by omega
      obtain ⟨ap, cp, rfl⟩ := hS.len
      obtain ⟨t, ht⟩ : ∃ t : Int, s + 1 + x.pins.length = t := ⟨_, rfl⟩
      have ht2 : s + 2 + x.pins.length = t + 1 := by omega
      rw [ht] at HHL d3
      rw [ht2] at d4
      have HT := Lib.hid ht
      have ht0 : 0 ≤ t := by omega
      have ht1 : t + 2 ≤ 1000000000000 := by omega
      clear hx hs hst ht ht2 hm he h4 hS
      go_wp2_with fail
      refine (HHL.out _ HSP.out).mono ?_
      rintro e w1 ⟨rfl, m', rfl⟩
      go_wp2
      exact ⟨⟨k + 1, _, by omega, by go_num, ⟨t + 1 + 1, rfl, by have := HS.out; have := HST.out; have := HT.out; omega⟩, rfl⟩, by simp [intOf]; omega⟩
    · obtain rfl : k = ds.length := by omega
      go_wp2
      go_ret
      exact ⟨ret_i64 (by rw [hs, HDF.out]), m, rfl⟩
end Go.Proofs.YtglddnkpccgchaaDoor

/- markPortS and heldPortS. -/
namespace Go.Proofs.YtglddnkpccgchaaDoor
open Go.RowKit
set_option linter.unusedVariables false
set_option linter.unusedSimpArgs false

def markPs (k n : Nat) : List Pt := (List.range n).map fun i => ⟨mtxt (k + 2 * i), ((k + 2 * i + 1 : Nat) : Int)⟩
theorem length_markPs (k n : Nat) : (markPs k n).length = n := by simp [markPs]
theorem markPs_get (k n i : Nat) (h : i < n) : (markPs k n)[i]? = some ⟨mtxt (k + 2 * i), ((k + 2 * i + 1 : Nat) : Int)⟩ := by simp [markPs, h]

set_option maxRecDepth 100000 in
set_option maxHeartbeats 4000000 in
theorem markPortS_any (lo hi : Nat) (sv : Value) (ps : List Pt) (k0 : Nat) (w : World) (h : OwnPs w lo hi sv ps) (hlw : hi ≤ w.heap.size) (hk : 0 < k0) (hk' : k0 + 2 * ps.length ≤ 1000000000000) :
    Calls Tryd.prog 39 #[sv, .int .i64 (k0 : Int)] w fun e w' => e = .returned (.int .i64 ((k0 + 2 * ps.length : Nat) : Int)) ∧ OwnPs w' lo hi sv (markPs k0 ps.length) ∧ Within lo hi w w' := by
  rcases h with ⟨a, c, rfl, rfl⟩ | ⟨g, cap, cs0, rfl, hg, hcap, hmax, hB0, hel⟩
  · go_enter Tryd.func39, Tryd.ntmps39
    go_wp2
    go_loopw [1, 5] (fun v i wr => i = .int .i64 0 ∧ v = .int .i64 (k0 : Int) ∧ wr = w) (fun _ _ _ => 0)
    case atStart => exact ⟨rfl, rfl, rfl⟩
    case round =>
      obtain ⟨rfl, rfl, rfl⟩ := hrel
      go_wp2
      go_ret
      exact ⟨ret_i64 (by simp), .inl ⟨_, _, rfl, by simp [markPs]⟩, Within.refl _ _ _⟩
  · unfold maxLen at hmax
    have HEL := Lib.hid hel
    clear hel
    go_enter Tryd.func39, Tryd.ntmps39
    go_wp2
    go_loopw [1, 5] (fun v i wr => ∃ k : Nat, k ≤ ps.length ∧ i = .int .i64 k ∧ v = .int .i64 ((k0 + 2 * k : Nat) : Int) ∧
      (∃ cs : Array Value, Blk wr g cs 49 ∧ cs.size = cs0.size ∧ Hid (∀ (j : Nat), j < k → Cs2 cs j (.string (mtxt (k0 + 2 * j))) (.int .i64 ((k0 + 2 * j + 1 : Nat) : Int)))) ∧ Within lo hi w wr) (fun _ i _ => ps.length - (intOf i).toNat)
    case atStart => exact ⟨0, Nat.zero_le _, rfl, by simp, ⟨cs0, hB0, rfl, Lib.hid (fun j h => by omega)⟩, Within.refl _ _ _⟩
    case round =>
      obtain ⟨k, hkl, rfl, rfl, ⟨cs, hB, hsz, HO⟩, ho⟩ := hrel
      by_cases hlt : k < ps.length
      · obtain ⟨x, hx⟩ : ∃ x, ps[k]? = some x := ⟨ps[k], List.getElem?_eq_getElem hlt⟩
        obtain ⟨c0, c1⟩ := HEL.out k x hx
        have hz : k * 2 + 1 < cs.size := by rw [hsz]; exact (Array.getElem?_eq_some_iff.1 c1).1
        have HMT := Lib.hid (fun w => markText_any (k0 + 2 * k) w (by omega) (by omega))
        have HSZ := Lib.hid hsz
        obtain ⟨s, hs⟩ : ∃ s : Nat, k0 + 2 * k = s := ⟨_, rfl⟩
        rw [hs] at HMT ⊢
        have HS := Lib.hid hs
        have hs1 : s + 2 ≤ 1000000000000 := by omega
        obtain ⟨u0_, d0⟩ : ∃ u, cs[k * 2]? = some u := ⟨_, Array.getElem?_eq_getElem (by omega)⟩
        obtain ⟨u1_, d1⟩ : ∃ u, cs[k * 2 + 1]? = some u := ⟨_, Array.getElem?_eq_getElem (by omega)⟩
        have i1 : (0 : Int) ≤ (k : Int) := by omega
        have i2 : (k : Int) < (ps.length : Int) := by omega
        have hsl := ho.size
        clear hx hs hsz c0 c1
        generalize hmt : mtxt s = mt at *
        have HMM := Lib.hid hmt
        clear hmt
        go_wp2_with fail
        refine (HMT.out _).mono ?_
        rintro e w1 ⟨rfl, hb1⟩
        have hb2 := Blk.by hb1 hB
        have e2 := hb2.cell
        have f2 := hb2.free
        have ho1 : Within lo hi w w1 := ho.on ⟨hb1.os, hb1.tape, hb1.output, hb1.size, fun k hk _ => hb1.block k hk⟩
        clear hb1 hB
        go_wp2
        refine ⟨⟨k + 1, by omega, by go_num, by have := HS.out; congr 1; omega, ⟨put2 cs k (.string mt) (.int .i64 ((s : Int) + 1)), (hb2.set _ _).set _ _, by rw [size_put2]; exact HSZ.out, Lib.hid (fun j hj => ?_)⟩, (ho1.set g _ _ hg.1 hg.2).set g _ _ hg.1 hg.2⟩, by simp [intOf]; omega⟩
        by_cases hjk : j = k
        · subst hjk
          rw [HS.out, HMM.out]
          exact put2_same cs j _ _ (by omega)
        · exact put2_other cs k j _ _ _ _ hjk (HO.out j (by omega))
      · obtain rfl : k = ps.length := by omega
        go_wp2
        go_ret
        refine ⟨rfl, .inr ⟨g, cap, cs, by rw [length_markPs], hg, by rw [length_markPs]; exact hcap, by unfold maxLen; exact hmax, hB, fun i y hy => ?_⟩, ho⟩
        have hi : i < ps.length := by have := (List.getElem?_eq_some_iff.1 hy).1; rwa [length_markPs] at this
        rw [markPs_get k0 _ i hi] at hy
        cases hy
        exact HO.out i hi

set_option maxRecDepth 100000 in
set_option maxHeartbeats 4000000 in
theorem heldPortS_any (sv : Value) (n k0 : Nat) (w : World) (h : PtSl w sv (markPs k0 n)) (hk : 0 < k0) (hk' : k0 + 2 * n ≤ 1000000000000) :
    Calls Tryd.prog 41 #[sv, .int .i64 (k0 : Int)] w fun e w' => e = .returned (.int .i64 ((k0 + 2 * n : Nat) : Int)) ∧ Below w.heap.size w w' := by
  have hlm := length_markPs k0 n
  have HH := Lib.hid h
  have hdl : (markPs k0 n).length ≤ 9223372036854775807 := by
    rcases h with ⟨_, _, _, h2⟩ | ⟨b, off, cap, h1, h2, h3, _⟩
    · rw [h2]; simp
    · unfold maxLen at h3; omega
  obtain ⟨a, c, rfl⟩ := h.sized
  rw [hlm] at hdl HH ⊢
  clear h hlm
  go_enter Tryd.func41, Tryd.ntmps41
  go_wp2
  go_loopw [1, 5] (fun v i wr => ∃ k : Nat, k ≤ n ∧ i = .int .i64 k ∧ v = .int .i64 ((k0 + 2 * k : Nat) : Int) ∧ Below w.heap.size w wr) (fun _ i _ => n - (intOf i).toNat)
  case atStart => exact ⟨0, Nat.zero_le _, rfl, by simp, (by ((repeat (first | (with_reducible exact Below.refl _ _) | (with_reducible refine below_drewN ?_ _) | (with_reducible refine Below.drew ?_) | (with_reducible refine below_al ?_ _) | (with_reducible refine below_on (by assumption) ?_) | ((with_reducible refine Below.setCell ?_ ?_ _); rotate_left; focus (first | omega | (simp; done) | (simp; omega))) | (with_reducible assumption))); done))⟩
  case round =>
    obtain ⟨k, hkl, rfl, rfl, hb⟩ := hrel
    by_cases hlt : k < n
    · have hm := markPs_get k0 n k hlt
      have HHS := HH.out
      rcases HHS with ⟨_, _, e1, e2⟩ | ⟨b, off, cap, he, h2, h3, h4⟩
      · rw [e2] at hm; simp at hm
      obtain ⟨d1, d2⟩ := (h4 k _ hm).by hb
      obtain ⟨rfl, rfl⟩ : a = some ⟨b, off, none⟩ ∧ c = cap := by simpa [length_markPs] using he
      dsimp only at d1 d2
      have HMT := Lib.hid (fun w => markText_any (k0 + 2 * k) w (by omega) (by omega))
      obtain ⟨s, hs⟩ : ∃ s : Nat, k0 + 2 * k = s := ⟨_, rfl⟩
      rw [hs] at HMT d1 d2 ⊢
      have HS := Lib.hid hs
      have hs1 : s + 2 ≤ 1000000000000 := by omega
      generalize mtxt s = mt at *
      have i1 : (0 : Int) ≤ (k : Int) := by omega
      have i2 : (k : Int) < (n : Int) := by omega
      have d2' := d2
      simp only [Int.natCast_add, Int.natCast_one] at d2'
      clear hm he h4 hs d2
      go_wp2_with fail
      go_region_held3 (fun w' => (w'.cell? ⟨b, off + k * 2, none⟩ = some (.string mt) ∧ w'.cell? ⟨b, off + k * 2 + 1, none⟩ = some (.int .i64 ((s : Int) + 1))) ∧ Below w.heap.size w w')
        (first | exact ⟨⟨d1, d2'⟩, hb.drew⟩ | exact ⟨⟨cell_by' hb1 d1, cell_by' hb1 d2'⟩, below_on hb1 hb.drew⟩)
        (first | (go_at_call 73; refine (HMT.out _).mono ?_; rintro e w1 ⟨rfl, hb1⟩))
      go_wp2
      exact ⟨⟨k + 1, by omega, by go_num, by have := HS.out; congr 1; omega, below_on hb1 hb.drew⟩, by simp [intOf]; omega⟩
    · obtain rfl : k = n := by omega
      go_wp2
      go_ret
      exact ⟨rfl, hb⟩
end Go.Proofs.YtglddnkpccgchaaDoor

/- toDeviceS, toPortS, toNetlist: with the memory of the call's own; marking netlists. -/
namespace Go.Proofs.YtglddnkpccgchaaDoor
open Go.RowKit
set_option linter.unusedVariables false
set_option linter.unusedSimpArgs false

set_option maxRecDepth 100000 in
set_option maxHeartbeats 2000000 in
theorem toDeviceS_own (sv : Value) (xs : List Dv) (w : World) (h : DvSl w sv xs) (hn : xs.length ≤ 1048576) (hpn : ∀ x ∈ xs, x.pins.length ≤ 1048576) :
    Calls Tryd.prog 24 #[sv] w fun e w' => ∃ v, e = .returned v ∧ OwnDs w' w.heap.size w'.heap.size v xs ∧ Below w.heap.size w w' := by
  rcases h with ⟨a, c, rfl, rfl⟩ | ⟨b, off, cap, rfl, h2, h3, h4⟩
  · obtain ⟨cs, hcs, hmk⟩ := make_dev 0 (by omega) w
    simp only [Int.natCast_zero] at hmk
    go_enter Tryd.func24, Tryd.ntmps24
    go_wp2
    go_loopw [4] (fun i wr => i = .int .i64 0 ∧ Blk wr w.heap.size cs 52 ∧ Below w.heap.size w wr) (fun _ _ => 0)
    case atStart => exact ⟨rfl, (by ((repeat (first | (with_reducible assumption) | (with_reducible refine Blk.drewN ?_ _) | (with_reducible refine Blk.drew ?_) | ((with_reducible refine Blk.new _ ?_); focus (first | omega | (simp; done) | (simp; omega))) | (with_reducible refine Blk.past ?_ _) | ((with_reducible refine Blk.apart ?_ _ _ _ ?_); rotate_left; focus (first | omega | (simp; done) | (simp; omega))) | (with_reducible refine Blk.by (by assumption) ?_))); done)), (by ((repeat (first | (with_reducible exact Below.refl _ _) | (with_reducible refine below_drewN ?_ _) | (with_reducible refine Below.drew ?_) | (with_reducible refine below_al ?_ _) | (with_reducible refine below_on (by assumption) ?_) | ((with_reducible refine Below.setCell ?_ ?_ _); rotate_left; focus (first | omega | (simp; done) | (simp; omega))) | (with_reducible assumption))); done))⟩
    case round =>
      obtain ⟨rfl, hx, hb⟩ := hrel
      go_wp2
      go_ret
      exact ⟨_, rfl, .inl ⟨_, _, rfl, rfl⟩, hb⟩
  · obtain ⟨cs0, hcs0, hmk⟩ := make_dev xs.length hn w
    unfold maxLen at h3
    go_enter Tryd.func24, Tryd.ntmps24
    go_wp2
    clear hmk
    go_loopw [4] (fun i wr => ∃ k : Nat, k ≤ xs.length ∧ i = .int .i64 k ∧ (∃ (cs : Array Value) (f : Nat → Nat), Blk wr w.heap.size cs 52 ∧ cs.size = xs.length * 4 ∧ (∀ j y, j < k → xs[j]? = some y → Cs4 cs j (.int .i64 y.kind) (.slice (some ⟨f j, 0, none⟩) y.pins.length y.pins.length) (.int .i64 y.wd) (.int .i64 y.len) ∧ IBlk wr (f j) y.pins ∧ w.heap.size < f j) ∧ (∀ i j, i < j → j < k → f i ≠ f j)) ∧ Below w.heap.size w wr) (fun i _ => xs.length - (intOf i).toNat)
    case atStart => exact ⟨0, Nat.zero_le _, rfl, ⟨cs0, fun _ => 0, (by ((repeat (first | (with_reducible assumption) | (with_reducible refine Blk.drewN ?_ _) | (with_reducible refine Blk.drew ?_) | ((with_reducible refine Blk.new _ ?_); focus (first | omega | (simp; done) | (simp; omega))) | (with_reducible refine Blk.past ?_ _) | ((with_reducible refine Blk.apart ?_ _ _ _ ?_); rotate_left; focus (first | omega | (simp; done) | (simp; omega))) | (with_reducible refine Blk.by (by assumption) ?_))); done)), hcs0, by intro j y hj; omega, by intro i j _ hj; omega⟩, (by ((repeat (first | (with_reducible exact Below.refl _ _) | (with_reducible refine below_drewN ?_ _) | (with_reducible refine Below.drew ?_) | (with_reducible refine below_al ?_ _) | (with_reducible refine below_on (by assumption) ?_) | ((with_reducible refine Below.setCell ?_ ?_ _); rotate_left; focus (first | omega | (simp; done) | (simp; omega))) | (with_reducible assumption))); done))⟩
    case round =>
      obtain ⟨k, hk, rfl, ⟨cs, f, hB, hsz, hold, hinj⟩, hb⟩ := hrel
      by_cases hlt : k < xs.length
      · obtain ⟨x, hx⟩ : ∃ x, xs[k]? = some x := ⟨xs[k], List.getElem?_eq_getElem hlt⟩
        obtain ⟨sv, c1, c2, c3, c4, hS⟩ := (h4 k x hx).by hb
        have HS := Lib.hid hsz
        have HO := Lib.hid hold
        have HINJ := Lib.hid hinj
        have HX := Lib.hid hx
        have hxm : x.pins.length ≤ 1048576 := hpn x (List.mem_of_getElem? hx)
        have HT := Lib.hid (fun w h => toDevice_any x.kind x.wd x.len sv x.pins w h hxm)
        have hin : k * 4 + 4 ≤ cs.size := by omega
        have hlB := hB.lt
        obtain ⟨u0_, d0⟩ : ∃ u, cs[k * 4]? = some u := ⟨_, Array.getElem?_eq_getElem (by omega)⟩
        obtain ⟨u1_, d1⟩ : ∃ u, cs[k * 4 + 1]? = some u := ⟨_, Array.getElem?_eq_getElem (by omega)⟩
        obtain ⟨u2_, d2⟩ : ∃ u, cs[k * 4 + 2]? = some u := ⟨_, Array.getElem?_eq_getElem (by omega)⟩
        obtain ⟨u3_, d3⟩ : ∃ u, cs[k * 4 + 3]? = some u := ⟨_, Array.getElem?_eq_getElem (by omega)⟩
        obtain ⟨a', c', rfl⟩ := hS.len
        clear hsz hold hinj hx h4 hcs0 hpn
        go_wp2_with fail
        refine (HT.out _ hS).mono ?_
        rintro e w1 ⟨gp, rfl, hG, hge, hb1⟩
        replace hB := Blk.by hb1 hB
        have hBc := hB.cell
        have hBf := hB.free
        go_wp2
        have hlt' : ∀ j y, j < k → xs[j]? = some y → f j < wr.heap.size := fun j y hj hy => (HO.out j y hj hy).2.1.lt
        refine ⟨⟨k + 1, by omega, by go_num, ⟨put4 cs k (.int .i64 x.kind) (.slice (some ⟨gp, 0, none⟩) x.pins.length x.pins.length) (.int .i64 x.wd) (.int .i64 x.len), fun j => if j = k then gp else f j, (((hB.set _ _).set _ _).set _ _).set _ _, by rw [size_put4]; exact HS.out, ?_, ?_⟩, (by ((repeat (first | (with_reducible exact Below.refl _ _) | (with_reducible refine below_drewN ?_ _) | (with_reducible refine Below.drew ?_) | (with_reducible refine below_al ?_ _) | (with_reducible refine below_on (by assumption) ?_) | ((with_reducible refine Below.setCell ?_ ?_ _); rotate_left; focus (first | omega | (simp; done) | (simp; omega))) | (with_reducible assumption))); done))⟩, by simp [intOf]; omega⟩
        · intro j y hj hy
          by_cases hjk : j = k
          · subst hjk
            have hxy := HX.out
            obtain rfl : y = x := Option.some.inj (hy.symm.trans hxy)
            simp only [if_true]
            exact ⟨put4_same cs j _ _ _ _ hin, (((hG.apart _ _ _ (by omega)).apart _ _ _ (by omega)).apart _ _ _ (by omega)).apart _ _ _ (by omega), by omega⟩
          · obtain ⟨q1, q2, q3⟩ := HO.out j y (by omega) hy
            simp only [if_neg hjk]
            exact ⟨put4_other cs k j _ _ _ _ _ _ _ _ hjk q1, ((((q2.by hb1).apart _ _ _ (by omega)).apart _ _ _ (by omega)).apart _ _ _ (by omega)).apart _ _ _ (by omega), q3⟩
        · intro i j hij hj
          obtain ⟨y, hy⟩ : ∃ y, xs[i]? = some y := ⟨xs[i]'(by omega), List.getElem?_eq_getElem (by omega)⟩
          have hfi := hlt' i y (by omega) hy
          by_cases hjk : j = k
          · subst hjk
            simp only [if_true, if_neg (show i ≠ j by omega)]
            omega
          · simp only [if_neg hjk, if_neg (show i ≠ k by omega)]
            exact HINJ.out i j hij (by omega)
      · go_wp2
        go_ret
        have hlB := hB.lt
        obtain rfl : k = xs.length := by omega
        refine ⟨_, rfl, .inr ⟨w.heap.size, xs.length, cs, f, rfl, by omega, Nat.le_refl _, by unfold maxLen; omega, hB, fun i x hx => ?_, fun i j hi hj hij => ?_⟩, hb⟩
        · have hi := (List.getElem?_eq_some_iff.1 hx).1
          obtain ⟨q1, q2, q3⟩ := hold i x hi hx
          have := q2.lt
          exact ⟨⟨_, q1, q2.r (by have := hpn x (List.mem_of_getElem? hx); omega)⟩, by omega⟩
        · rcases Nat.lt_or_ge i j with h | h
          · exact hinj i j h hj
          · exact fun e => hinj j i (by omega) hi e.symm
end Go.Proofs.YtglddnkpccgchaaDoor

/- Netlists in memory of the call's own; marking them. -/
namespace Go.Proofs.YtglddnkpccgchaaDoor
open Go.RowKit
set_option linter.unusedVariables false
set_option linter.unusedSimpArgs false

/-- A netlist, all of whose memory lies in blocks from lo on and below hi, devices and ports apart. -/
def OwnNl (w : World) (lo hi : Nat) (v : Value) (x : Nl) : Prop := ∃ s1 s2 l1 h1 l2 h2, v = .agg #[.int .i64 x.nets, s1, s2] ∧ OwnDs w l1 h1 s1 x.ds ∧ OwnPs w l2 h2 s2 x.ps ∧ (lo ≤ l1 ∧ h1 ≤ hi) ∧ (lo ≤ l2 ∧ h2 ≤ hi) ∧ (h1 ≤ l2 ∨ h2 ≤ l1)
section
variable {w w' : World} {lo hi lo' hi' : Nat} {v : Value} {x : Nl}
theorem OwnNl.by (hb : Below w.heap.size w w') (h : OwnNl w lo hi v x) : OwnNl w' lo hi v x := by
  obtain ⟨s1, s2, l1, h1, l2, h2, e, a, b, c⟩ := h; exact ⟨s1, s2, l1, h1, l2, h2, e, a.by hb, b.by hb, c⟩
theorem OwnNl.past (hb : Within lo' hi' w w') (h : OwnNl w lo hi v x) (hd : hi ≤ lo' ∨ hi' ≤ lo) : OwnNl w' lo hi v x := by
  obtain ⟨s1, s2, l1, h1, l2, h2, e, a, b, c, d, f⟩ := h; exact ⟨s1, s2, l1, h1, l2, h2, e, a.past hb (by omega), b.past hb (by omega), c, d, f⟩
theorem OwnNl.wide (h : OwnNl w lo hi v x) (h1 : lo' ≤ lo) (h2 : hi ≤ hi') : OwnNl w lo' hi' v x := by
  obtain ⟨s1, s2, l1, h1, l2, h2, e, a, b, c, d, f⟩ := h; exact ⟨s1, s2, l1, h1, l2, h2, e, a, b, by omega, by omega, f⟩
theorem OwnNl.nl (h : OwnNl w lo hi v x) : NlV w v x := by
  obtain ⟨s1, s2, l1, h1, l2, h2, e, a, b, c⟩ := h; exact ⟨s1, s2, e, a.sl, b.sl⟩
end
def nsum (x : Nl) : Nat := (dsum x.ds).toNat + 2 * x.ps.length
/-- A marked netlist. -/
def markNl (k : Nat) (x : Nl) : Nl := ⟨x.nets, markDs k x.ds, markPs (k + (dsum x.ds).toNat) x.ps.length⟩

set_option maxRecDepth 100000 in
set_option maxHeartbeats 2000000 in
theorem toPortS_own (sv : Value) (xs : List Pt) (w : World) (h : PtSl w sv xs) (hn : xs.length ≤ 1048576) :
    Calls Tryd.prog 25 #[sv] w fun e w' => ∃ v, e = .returned v ∧ OwnPs w' w.heap.size w'.heap.size v xs ∧ Below w.heap.size w w' := by
  refine (toPortS_any sv xs w h hn).mono ?_
  rintro e w' ⟨g, rfl, ⟨cs, h1, h2, h3⟩, hg, hb⟩
  exact ⟨_, rfl, .inr ⟨g, xs.length, cs, rfl, ⟨hg, h1.lt⟩, Nat.le_refl _, by unfold maxLen; omega, h1, h3⟩, hb⟩

theorem Within.off {g o : Nat} {w : World} (v : Value) : Within g (g + 1) w (w.setCell ⟨g, o, none⟩ v) := Within.set (Within.refl g (g + 1) w) g o v (Nat.le_refl _) (by omega)

set_option maxRecDepth 100000 in
set_option maxHeartbeats 2000000 in
theorem toNetlist_own (v : Value) (x : Nl) (w : World) (h : NlV w v x) (hn : x.ds.length ≤ 1048576) (hpn : ∀ d ∈ x.ds, d.pins.length ≤ 1048576) (hn' : x.ps.length ≤ 1048576) :
    Calls Tryd.prog 8 #[v] w fun e w' => ∃ v', e = .returned v' ∧ OwnNl w' w.heap.size w'.heap.size v' x ∧ Below w.heap.size w w' := by
  obtain ⟨s1, s2, rfl, h, h'⟩ := h
  obtain ⟨nets, ds, ps⟩ := x
  dsimp only at h h' hn hpn hn' ⊢
  have HD := Lib.hid (fun w h => toDeviceS_own s1 ds w h hn hpn)
  have HP := Lib.hid (fun w h => toPortS_own s2 ps w h hn')
  obtain ⟨a, c, rfl⟩ := h.sized
  obtain ⟨a', c', rfl⟩ := h'.sized
  go_enter Tryd.func8, Tryd.ntmps8
  go_wp2_with fail
  refine (HD.out _ (h.by (by ((repeat (first | (with_reducible exact Below.refl _ _) | (with_reducible refine below_drewN ?_ _) | (with_reducible refine Below.drew ?_) | (with_reducible refine below_al ?_ _) | (with_reducible refine below_on (by assumption) ?_) | ((with_reducible refine Below.setCell ?_ ?_ _); rotate_left; focus (first | omega | (simp; done) | (simp; omega))) | (with_reducible assumption))); done)))).mono ?_
  rintro e w1 ⟨v1, rfl, hG, hb1⟩
  have k0 : Blk w1 w.heap.size #[.int .i64 nets, .slice a ds.length c, .slice a' ps.length c'] 25 := (by ((repeat (first | (with_reducible assumption) | (with_reducible refine Blk.drewN ?_ _) | (with_reducible refine Blk.drew ?_) | ((with_reducible refine Blk.new _ ?_); focus (first | omega | (simp; done) | (simp; omega))) | (with_reducible refine Blk.past ?_ _) | ((with_reducible refine Blk.apart ?_ _ _ _ ?_); rotate_left; focus (first | omega | (simp; done) | (simp; omega))) | (with_reducible refine Blk.by (by assumption) ?_))); done))
  have k1 : Blk w1 (w.heap.size + 1) #[.int .i64 0, .slice none 0 0, .slice none 0 0] 31 := (by ((repeat (first | (with_reducible assumption) | (with_reducible refine Blk.drewN ?_ _) | (with_reducible refine Blk.drew ?_) | ((with_reducible refine Blk.new _ ?_); focus (first | omega | (simp; done) | (simp; omega))) | (with_reducible refine Blk.past ?_ _) | ((with_reducible refine Blk.apart ?_ _ _ _ ?_); rotate_left; focus (first | omega | (simp; done) | (simp; omega))) | (with_reducible refine Blk.by (by assumption) ?_))); done))
  have k2 : Blk w1 (w.heap.size + 1 + 1) #[.int .i64 nets, .slice none 0 0, .slice none 0 0] 31 := (by ((repeat (first | (with_reducible assumption) | (with_reducible refine Blk.drewN ?_ _) | (with_reducible refine Blk.drew ?_) | ((with_reducible refine Blk.new _ ?_); focus (first | omega | (simp; done) | (simp; omega))) | (with_reducible refine Blk.past ?_ _) | ((with_reducible refine Blk.apart ?_ _ _ _ ?_); rotate_left; focus (first | omega | (simp; done) | (simp; omega))) | (with_reducible refine Blk.by (by assumption) ?_))); done))
  have l2 := k2.lt
  have c0 := k0.cell
  have c2 := k2.cell
  have f2 := k2.free
  simp only [World.size_alloc] at hG
  have HG := Lib.hid hG
  obtain ⟨a1, c1, rfl⟩ := hG.sl.sized
  clear hG
  go_wp2_with fail
  have hbw : Below w.heap.size w (w1.setCell ⟨w.heap.size + 1 + 1, 1, none⟩ (.slice a1 ds.length c1)) := (by ((repeat (first | (with_reducible exact Below.refl _ _) | (with_reducible refine below_drewN ?_ _) | (with_reducible refine Below.drew ?_) | (with_reducible refine below_al ?_ _) | (with_reducible refine below_on (by assumption) ?_) | ((with_reducible refine Below.setCell ?_ ?_ _); rotate_left; focus (first | omega | (simp; done) | (simp; omega))) | (with_reducible assumption))); done))
  refine (HP.out _ (h'.by hbw)).mono ?_
  rintro e w2 ⟨v2, rfl, hF, hb2⟩
  replace k1 : Blk w2 (w.heap.size + 1) #[.int .i64 0, .slice none 0 0, .slice none 0 0] 31 := (by ((repeat (first | (with_reducible assumption) | (with_reducible refine Blk.drewN ?_ _) | (with_reducible refine Blk.drew ?_) | ((with_reducible refine Blk.new _ ?_); focus (first | omega | (simp; done) | (simp; omega))) | (with_reducible refine Blk.past ?_ _) | ((with_reducible refine Blk.apart ?_ _ _ _ ?_); rotate_left; focus (first | omega | (simp; done) | (simp; omega))) | (with_reducible refine Blk.by (by assumption) ?_))); done))
  replace k2 : Blk w2 (w.heap.size + 1 + 1) #[.int .i64 nets, .slice a1 ds.length c1, .slice none 0 0] 31 := Blk.by hb2 (k2.set 1 _)
  have hG2 := ((HG.out.past (Within.off (g := w.heap.size + 1 + 1) (o := 1) (.slice a1 ds.length c1)) (by omega)).by hb2)
  have HG2 := Lib.hid hG2
  replace hbw := below_on hb2 hbw
  have hsz := hb2.size
  simp at hsz hF
  have HF := Lib.hid hF
  obtain ⟨a2, c2', rfl⟩ := hF.sl.sized
  clear c0 k0 c2 f2 hb1 hb2 HG hG2 hF
  have c1' := k1.cell
  have f1 := k1.free
  have c2 := k2.cell
  have f2 := k2.free
  have l1 := k1.lt
  have l2' := k2.lt
  go_wp2
  refine bodyPost_ret (v := .agg #[.int .i64 nets, .slice a1 ds.length c1, .slice a2 ps.length c2']) (by simp [results, Tryd.results8, go_sem, *]) rfl ⟨_, rfl, ⟨_, _, w.heap.size + 1 + 1 + 1, w1.heap.size, w1.heap.size, w2.heap.size, rfl, ?_, ?_, ⟨by omega, by simp; omega⟩, ⟨by omega, by simp⟩, .inl (Nat.le_refl _)⟩, ?_⟩
  · exact ((((HG2.out.past (Within.off _) (by omega)).past (Within.off _) (by omega)).past (Within.off _) (by omega)).past (Within.off _) (by omega))
  · exact ((((HF.out.past (Within.off _) (by omega)).past (Within.off _) (by omega)).past (Within.off _) (by omega)).past (Within.off _) (by omega))
  · repeat (first | (with_reducible exact hbw) | ((with_reducible refine Below.setCell ?_ ?_ _); rotate_left; focus (simp; try omega)))

set_option maxRecDepth 100000 in
set_option maxHeartbeats 2000000 in
theorem markNetlist_any (lo hi : Nat) (v : Value) (x : Nl) (k0 : Nat) (w : World) (h : OwnNl w lo hi v x) (hlw : hi ≤ w.heap.size) (hpn : ∀ d ∈ x.ds, d.pins.length ≤ 1048576) (hk : 0 < k0) (hk' : k0 + nsum x ≤ 1000000000) :
    Calls Tryd.prog 13 #[v, .int .i64 (k0 : Int)] w fun e w' => e = .returned (.int .i64 ((k0 + nsum x : Nat) : Int)) ∧ OwnNl w' lo hi v (markNl k0 x) ∧ Within lo hi w w' := by
  obtain ⟨s1, s2, l1, h1, l2, h2, rfl, hD, hP, q1, q2, q3⟩ := h
  obtain ⟨nets, ds, ps⟩ := x
  simp only [nsum, markNl] at hk' ⊢
  dsimp only at hD hP hpn ⊢
  have hd0 := dsum_nonneg ds
  obtain ⟨dn, hdn⟩ : ∃ dn : Nat, dsum ds = (dn : Int) := ⟨(dsum ds).toNat, by omega⟩
  have HMD := Lib.hid (fun w h => markDeviceS_any l1 h1 s1 ds k0 w h hpn (by omega) (by omega))
  rw [hdn] at HMD hk' ⊢
  simp only [Int.toNat_natCast] at hk' ⊢
  have HMP := Lib.hid (fun w h hlw => markPortS_any l2 h2 s2 ps (k0 + dn) w h hlw (by omega) (by omega))
  have HD := Lib.hid hD
  have HP := Lib.hid hP
  obtain ⟨a, c, rfl⟩ := hD.sl.sized
  obtain ⟨a', c', rfl⟩ := hP.sl.sized
  obtain ⟨T, hT⟩ : ∃ T : Nat, k0 + dn + 2 * ps.length = T := ⟨_, rfl⟩
  have hT' : k0 + (dn + 2 * ps.length) = T := by omega
  rw [hT] at HMP
  rw [hT']
  have hcast : ((k0 : Int) + (dn : Int)) = ((k0 + dn : Nat) : Int) := by omega
  rw [hcast] at HMD
  obtain ⟨m, hm⟩ : ∃ m : Nat, k0 + dn = m := ⟨_, rfl⟩
  rw [hm] at HMD HMP ⊢
  clear hD hP hdn hT hT' hd0 hcast hm
  go_enter Tryd.func13, Tryd.ntmps13
  go_wp2_with fail
  refine (HMD.out _ (HD.out.by (by ((repeat (first | (with_reducible exact Below.refl _ _) | (with_reducible refine below_drewN ?_ _) | (with_reducible refine Below.drew ?_) | (with_reducible refine below_al ?_ _) | (with_reducible refine below_on (by assumption) ?_) | ((with_reducible refine Below.setCell ?_ ?_ _); rotate_left; focus (first | omega | (simp; done) | (simp; omega))) | (with_reducible assumption))); done)))).mono ?_
  rintro e w1 ⟨rfl, hD1, hw1⟩
  have k0_ : Blk w1 w.heap.size #[.int .i64 nets, .slice a ds.length c, .slice a' ps.length c'] 31 := hw1.blk (Blk.new _ rfl) (by omega)
  have hWt : Within lo hi w w1 := ((Within.refl lo hi w).alloc _).on (hw1.sub q1.1 q1.2)
  have hP1 := (HP.out.by ((Below.refl _ w).alloc (Nat.le_refl _) (.cells #[.int .i64 nets, .slice a ds.length c, .slice a' ps.length c'] 31))).past hw1 (by omega)
  have c0 := k0_.cell
  have hsz := hWt.size
  have HD1 := Lib.hid hD1
  have HP1 := Lib.hid hP1
  clear hD1 hP1 hw1
  go_wp2_with fail
  refine (HMP.out _ HP1.out (by omega)).mono ?_
  rintro e w2 ⟨rfl, hP2, hw2⟩
  have hD2 := HD1.out.past hw2 (by omega)
  go_wp2
  go_ret
  exact ⟨rfl, ⟨_, _, l1, h1, l2, h2, by rfl, hD2, hP2, q1, q2, q3⟩, hWt.on (hw2.sub q2.1 q2.2)⟩

set_option maxRecDepth 100000 in
set_option maxHeartbeats 2000000 in
theorem heldNetlist_any (v : Value) (x : Nl) (k0 : Nat) (w : World) (h : NlV w v (markNl k0 x)) (hpn : ∀ d ∈ x.ds, d.pins.length ≤ 1048576) (hk : 0 < k0) (hk' : k0 + nsum x ≤ 1000000000) :
    Calls Tryd.prog 14 #[v, .int .i64 (k0 : Int)] w fun e w' => e = .returned (.int .i64 ((k0 + nsum x : Nat) : Int)) ∧ Below w.heap.size w w' := by
  obtain ⟨s1, s2, rfl, hD, hP⟩ := h
  obtain ⟨nets, ds, ps⟩ := x
  simp only [nsum, markNl] at hk' hD hP ⊢
  dsimp only at hD hP hpn ⊢
  have hd0 := dsum_nonneg ds
  obtain ⟨dn, hdn⟩ : ∃ dn : Nat, dsum ds = (dn : Int) := ⟨(dsum ds).toNat, by omega⟩
  have HMD := Lib.hid (fun w h => heldDeviceS_any s1 ds k0 w h hpn (by omega) (by omega))
  rw [hdn] at HMD hk' hP ⊢
  simp only [Int.toNat_natCast] at hk' hP ⊢
  have HMP := Lib.hid (fun w h => heldPortS_any s2 ps.length (k0 + dn) w h (by omega) (by omega))
  have HD := Lib.hid hD
  have HP := Lib.hid hP
  obtain ⟨a, c, rfl⟩ := hD.sized
  obtain ⟨a', c', rfl⟩ := hP.sized
  rw [length_markDs, length_markPs] at *
  obtain ⟨T, hT⟩ : ∃ T : Nat, k0 + dn + 2 * ps.length = T := ⟨_, rfl⟩
  have hT' : k0 + (dn + 2 * ps.length) = T := by omega
  rw [hT] at HMP
  rw [hT']
  have hcast : ((k0 : Int) + (dn : Int)) = ((k0 + dn : Nat) : Int) := by omega
  rw [hcast] at HMD
  obtain ⟨m, hm⟩ : ∃ m : Nat, k0 + dn = m := ⟨_, rfl⟩
  rw [hm] at HMD HMP HP
  have hm0 : 0 ≤ (m : Int) := by omega
  have hT0 : 0 ≤ (T : Int) := by omega
  clear hD hP hdn hT hT' hd0 hcast hm
  go_enter Tryd.func14, Tryd.ntmps14
  go_wp2_with fail
  refine (HMD.out _ (HD.out.by (by ((repeat (first | (with_reducible exact Below.refl _ _) | (with_reducible refine below_drewN ?_ _) | (with_reducible refine Below.drew ?_) | (with_reducible refine below_al ?_ _) | (with_reducible refine below_on (by assumption) ?_) | ((with_reducible refine Below.setCell ?_ ?_ _); rotate_left; focus (first | omega | (simp; done) | (simp; omega))) | (with_reducible assumption))); done)))).mono ?_
  rintro e w1 ⟨rfl, nd, rfl⟩
  go_wp2_with fail
  refine (HMP.out _ (HP.out.by (by ((repeat (first | (with_reducible exact Below.refl _ _) | (with_reducible refine below_drewN ?_ _) | (with_reducible refine Below.drew ?_) | (with_reducible refine below_al ?_ _) | (with_reducible refine below_on (by assumption) ?_) | ((with_reducible refine Below.setCell ?_ ?_ _); rotate_left; focus (first | omega | (simp; done) | (simp; omega))) | (with_reducible assumption))); done)))).mono ?_
  rintro e w2 ⟨rfl, hb2⟩
  go_wp2
  go_ret
  exact ⟨rfl, (by ((repeat (first | (with_reducible exact Below.refl _ _) | (with_reducible refine below_drewN ?_ _) | (with_reducible refine Below.drew ?_) | (with_reducible refine below_al ?_ _) | (with_reducible refine below_on (by assumption) ?_) | ((with_reducible refine Below.setCell ?_ ?_ _); rotate_left; focus (first | omega | (simp; done) | (simp; omega))) | (with_reducible assumption))); done))⟩
end Go.Proofs.YtglddnkpccgchaaDoor

/- What a netlist's marks come to. -/
namespace Go.Proofs.YtglddnkpccgchaaDoor
open Go.RowKit
set_option linter.unusedVariables false
theorem dsum_pins (ds : List Dv) : dsum ds = 3 * (ds.length : Int) + pinsAll ds := by
  induction ds with
  | nil => simp [dsum, pinsAll]
  | cons d ds ih => simp only [dsum, pinsAll, ih, List.length_cons]; omega
theorem nsum_le {x : Nl} (h : nlSize x.ds x.ps ≤ 1048576) : nsum x ≤ 4000000 := by
  unfold nlSize at h
  have h1 := pinsAll_nonneg x.ds
  have h2 := namesAll_nonneg x.ps
  have h3 := dsum_pins x.ds
  unfold nsum
  omega
theorem dsum_filter (p : Dv → Bool) (ds : List Dv) : dsum (ds.filter p) ≤ dsum ds := by
  induction ds with
  | nil => simp [dsum]
  | cons d ds ih =>
    have := dsum_nonneg ds
    cases hp : p d with
    | true => simp only [List.filter_cons, hp, dsum, if_true]; omega
    | false => simp only [List.filter_cons, hp, dsum, Bool.false_eq_true, if_false]; omega
end Go.Proofs.YtglddnkpccgchaaDoor

/- Netlists of the call's own whose ports' block may lie between the blocks of the devices: marking them. -/
namespace Go.Proofs.YtglddnkpccgchaaDoor
open Go.RowKit
set_option linter.unusedVariables false
set_option linter.unusedSimpArgs false

/-- As Within, and block P is as it was. -/
structure WithX (lo hi P : Nat) (w w' : World) : Prop where
  within : Within lo hi w w'
  keep : P < w.heap.size → w'.heap[P]? = w.heap[P]?
section
variable {lo hi P : Nat} {a w w' : World}
theorem WithX.refl (lo hi P : Nat) (w : World) : WithX lo hi P w w := ⟨Within.refl _ _ _, fun _ => rfl⟩
theorem WithX.set (h : WithX lo hi P a w) (g o : Nat) (v : Value) (h1 : lo ≤ g) (h2 : g < hi) (h3 : g ≠ P) : WithX lo hi P a (w.setCell ⟨g, o, none⟩ v) :=
  ⟨h.within.set g o v h1 h2, fun hp => (Below.heap_setCell w ⟨g, o, none⟩ v P (fun e => h3 e.symm)).trans (h.keep hp)⟩
theorem WithX.on (h : WithX lo hi P a w) (h' : WithX lo hi P w w') : WithX lo hi P a w' :=
  ⟨h.within.on h'.within, fun hp => (h'.keep (by have := h.within.size; omega)).trans (h.keep hp)⟩
theorem Within.subX {lo' hi' : Nat} (h : Within lo hi w w') (h1 : lo' ≤ lo) (h2 : hi ≤ hi') (h3 : P < lo ∨ hi ≤ P) : WithX lo' hi' P w w' := ⟨h.sub h1 h2, fun hp => h.block P hp h3⟩
end
/-- A slice of devices of the call's own, none of whose blocks is P. -/
def OwnDsX (w : World) (lo hi P : Nat) (sv : Value) (ds : List Dv) : Prop :=
  (∃ a c, sv = .slice a 0 c ∧ ds = []) ∨ ∃ (g cap : Nat) (cs : Array Value) (f : Nat → Nat), sv = .slice (some ⟨g, 0, none⟩) ds.length cap ∧ ((lo ≤ g ∧ g < hi) ∧ g ≠ P) ∧ ds.length ≤ cap ∧ cap ≤ maxLen ∧ Blk w g cs 52 ∧
    (∀ (i : Nat) (x : Dv), ds[i]? = some x → (∃ pv, Cs4 cs i (.int .i64 x.kind) pv (.int .i64 x.wd) (.int .i64 x.len) ∧ OwnR w (f i) (f i + 1) pv x.pins) ∧ (lo ≤ f i ∧ f i < hi ∧ f i ≠ g ∧ f i ≠ P)) ∧ (∀ i j, i < ds.length → j < ds.length → i ≠ j → f i ≠ f j)
section
variable {w w' : World} {lo hi P lo' hi' : Nat} {sv : Value} {ds : List Dv} {ps : List Pt}
theorem OwnDsX.ods (h : OwnDsX w lo hi P sv ds) : OwnDs w lo hi sv ds := by
  rcases h with h | ⟨g, cap, cs, f, h1, h2, h3, h4, h5, h6, h7⟩
  · exact .inl h
  · exact .inr ⟨g, cap, cs, f, h1, h2.1, h3, h4, h5, fun i x hx => ⟨(h6 i x hx).1, (h6 i x hx).2.1, (h6 i x hx).2.2.1, (h6 i x hx).2.2.2.1⟩, h7⟩
theorem OwnDs.x (h : OwnDs w lo hi sv ds) (hP : P < lo ∨ hi ≤ P) : OwnDsX w lo hi P sv ds := by
  rcases h with h | ⟨g, cap, cs, f, h1, h2, h3, h4, h5, h6, h7⟩
  · exact .inl h
  · refine .inr ⟨g, cap, cs, f, h1, ⟨h2, by omega⟩, h3, h4, h5, fun i x hx => ⟨(h6 i x hx).1, (h6 i x hx).2.1, (h6 i x hx).2.2.1, (h6 i x hx).2.2.2, ?_⟩, h7⟩
    have := (h6 i x hx).2
    omega
theorem OwnDsX.by (hb : Below w.heap.size w w') (h : OwnDsX w lo hi P sv ds) : OwnDsX w' lo hi P sv ds := by
  rcases h with h | ⟨g, cap, cs, f, h1, h2, h3, h4, h5, h6, h7⟩
  · exact .inl h
  · refine .inr ⟨g, cap, cs, f, h1, h2, h3, h4, Blk.by hb h5, fun i x hx => ?_, h7⟩
    obtain ⟨⟨pv, a, b⟩, c⟩ := h6 i x hx
    exact ⟨⟨pv, a, OwnR.by hb b⟩, c⟩
theorem OwnDsX.past (hb : Within lo' hi' w w') (h : OwnDsX w lo hi P sv ds) (hd : hi ≤ lo' ∨ hi' ≤ lo) : OwnDsX w' lo hi P sv ds := by
  rcases h with h | ⟨g, cap, cs, f, h1, h2, h3, h4, h5, h6, h7⟩
  · exact .inl h
  · refine .inr ⟨g, cap, cs, f, h1, h2, h3, h4, hb.blk h5 (by omega), fun i x hx => ?_, h7⟩
    obtain ⟨⟨pv, a, b⟩, c⟩ := h6 i x hx
    exact ⟨⟨pv, a, OwnR.past hb b (by omega)⟩, c⟩
/-- Writing into block P alone. -/
theorem OwnDsX.off (h : OwnDsX w lo hi P sv ds) (hb : Within P (P + 1) w w') : OwnDsX w' lo hi P sv ds := by
  rcases h with h | ⟨g, cap, cs, f, h1, h2, h3, h4, h5, h6, h7⟩
  · exact .inl h
  · refine .inr ⟨g, cap, cs, f, h1, h2, h3, h4, hb.blk h5 (by omega), fun i x hx => ?_, h7⟩
    obtain ⟨⟨pv, a, b⟩, c⟩ := h6 i x hx
    exact ⟨⟨pv, a, OwnR.past hb b (by omega)⟩, c⟩
theorem OwnDsX.wide (h : OwnDsX w lo hi P sv ds) (h1 : lo' ≤ lo) (h2 : hi ≤ hi') : OwnDsX w lo' hi' P sv ds := by
  rcases h with h | ⟨g, cap, cs, f, e1, e2, e3, e4, e5, e6, e7⟩
  · exact .inl h
  · refine .inr ⟨g, cap, cs, f, e1, by omega, e3, e4, e5, fun i x hx => ?_, e7⟩
    obtain ⟨a, b⟩ := e6 i x hx
    exact ⟨a, by omega⟩
theorem OwnPs.pastX (hb : WithX lo hi P w w') (h : OwnPs w P (P + 1) sv ps) : OwnPs w' P (P + 1) sv ps := by
  rcases h with h | ⟨g, cap, cs, h1, h2, h3, h4, h5, h6⟩
  · exact .inl h
  · obtain rfl : g = P := by omega
    exact .inr ⟨g, cap, cs, h1, h2, h3, h4, (hb.keep h5.lt).trans h5, h6⟩
theorem OwnPs.at (h : OwnPs w lo hi sv ps) (hl : lo < hi) : ∃ P, OwnPs w P (P + 1) sv ps ∧ lo ≤ P ∧ P < hi := by
  rcases h with h | ⟨g, cap, cs, h1, h2, h3, h4, h5, h6⟩
  · exact ⟨lo, .inl h, Nat.le_refl _, hl⟩
  · exact ⟨g, .inr ⟨g, cap, cs, h1, by omega, h3, h4, h5, h6⟩, h2.1, h2.2⟩
end
/-- A netlist of the call's own; the ports' block lies anywhere among those of the devices. -/
def OwnNlX (w : World) (lo hi : Nat) (v : Value) (x : Nl) : Prop := ∃ s1 s2 P, v = .agg #[.int .i64 x.nets, s1, s2] ∧ OwnDsX w lo hi P s1 x.ds ∧ OwnPs w P (P + 1) s2 x.ps ∧ (lo ≤ P ∧ P < hi)
section
variable {w w' : World} {lo hi lo' hi' : Nat} {v : Value} {x : Nl}
theorem OwnNlX.by (hb : Below w.heap.size w w') (h : OwnNlX w lo hi v x) : OwnNlX w' lo hi v x := by
  obtain ⟨s1, s2, P, e, a, b, c⟩ := h; exact ⟨s1, s2, P, e, a.by hb, b.by hb, c⟩
theorem OwnNlX.past (hb : Within lo' hi' w w') (h : OwnNlX w lo hi v x) (hd : hi ≤ lo' ∨ hi' ≤ lo) : OwnNlX w' lo hi v x := by
  obtain ⟨s1, s2, P, e, a, b, c⟩ := h; exact ⟨s1, s2, P, e, a.past hb hd, b.past hb (by omega), c⟩
theorem OwnNlX.wide (h : OwnNlX w lo hi v x) (h1 : lo' ≤ lo) (h2 : hi ≤ hi') : OwnNlX w lo' hi' v x := by
  obtain ⟨s1, s2, P, e, a, b, c⟩ := h; exact ⟨s1, s2, P, e, a.wide h1 h2, b, by omega⟩
theorem OwnNlX.nl (h : OwnNlX w lo hi v x) : NlV w v x := by
  obtain ⟨s1, s2, P, e, a, b, c⟩ := h; exact ⟨s1, s2, e, a.ods.sl, b.sl⟩
theorem nlZeroX (w : World) (lo hi : Nat) (h : lo < hi) : OwnNlX w lo hi (.agg #[.int .i64 0, .slice none 0 0, .slice none 0 0]) ⟨0, [], []⟩ :=
  ⟨_, _, lo, rfl, .inl ⟨_, _, rfl, rfl⟩, .inl ⟨_, _, rfl, rfl⟩, Nat.le_refl _, h⟩
end

set_option maxRecDepth 100000 in
set_option maxHeartbeats 4000000 in
theorem markDeviceSX_any (lo hi P : Nat) (sv : Value) (ds : List Dv) (k0 : Int) (w : World) (h : OwnDsX w lo hi P sv ds) (hpn : ∀ d ∈ ds, d.pins.length ≤ 1048576) (hk : 0 ≤ k0) (hk' : k0 + dsum ds ≤ 1000000000000) :
    Calls Tryd.prog 38 #[sv, .int .i64 k0] w fun e w' => e = .returned (.int .i64 (k0 + dsum ds)) ∧ OwnDsX w' lo hi P sv (markDs k0 ds) ∧ WithX lo hi P w w' := by
  rcases h with ⟨a, c, rfl, rfl⟩ | ⟨g, cap, cs0, f, rfl, ⟨hg, hgP⟩, hcap, hmax, hB0, hel, hinj⟩
  · go_enter Tryd.func38, Tryd.ntmps38
    go_wp2
    go_loopw [1, 5] (fun v i wr => i = .int .i64 0 ∧ v = .int .i64 k0 ∧ wr = w) (fun _ _ _ => 0)
    case atStart => exact ⟨rfl, rfl, rfl⟩
    case round =>
      obtain ⟨rfl, rfl, rfl⟩ := hrel
      go_wp2
      go_ret
      exact ⟨ret_i64 (by simp [dsum]), .inl ⟨_, _, rfl, rfl⟩, WithX.refl _ _ _ _⟩
  · unfold maxLen at hmax
    have HPN := Lib.hid hpn
    have HEL := Lib.hid hel
    have HINJ := Lib.hid hinj
    have HDT := Lib.hid (dsum_take ds)
    have HDM := Lib.hid (dsum_mono ds)
    have HD0 := Lib.hid (fun k => dsum_nonneg (ds.take k))
    have HDF := Lib.hid (show dsum (ds.take ds.length) = dsum ds by rw [List.take_length])
    have HM := Lib.hid (markDs_inv k0 ds)
    have HLM := Lib.hid (length_markDs k0 ds)
    clear hpn hel hinj
    go_enter Tryd.func38, Tryd.ntmps38
    go_wp2
    go_loopw [1, 5] (fun v i wr => ∃ k : Nat, k ≤ ds.length ∧ i = .int .i64 k ∧ (∃ s : Int, v = .int .i64 s ∧ s = k0 + dsum (ds.take k)) ∧
      (∃ cs : Array Value, Blk wr g cs 52 ∧ Hid (∀ (j : Nat) (x : Dv), ds[j]? = some x → (j < k → ∃ pv, Cs4 cs j (.int .i64 (k0 + dsum (ds.take j))) pv (.int .i64 (k0 + dsum (ds.take j) + 1 + x.pins.length)) (.int .i64 (k0 + dsum (ds.take j) + 2 + x.pins.length)) ∧ OwnR wr (f j) (f j + 1) pv (marks (k0 + dsum (ds.take j) + 1) x.pins.length)) ∧ (k ≤ j → ∃ pv, Cs4 cs j (.int .i64 x.kind) pv (.int .i64 x.wd) (.int .i64 x.len) ∧ OwnR wr (f j) (f j + 1) pv x.pins))) ∧ WithX lo hi P w wr) (fun _ i _ => ds.length - (intOf i).toNat)
    case atStart => exact ⟨0, Nat.zero_le _, rfl, ⟨k0, rfl, by simp [dsum]⟩, ⟨cs0, hB0, Lib.hid (fun j x hx => ⟨fun h => by omega, fun _ => (HEL.out j x hx).1⟩)⟩, WithX.refl _ _ _ _⟩
    case round =>
      obtain ⟨k, hkl, rfl, ⟨s, rfl, hs⟩, ⟨cs, hB, HO⟩, ho⟩ := hrel
      by_cases hlt : k < ds.length
      · obtain ⟨x, hx⟩ : ∃ x, ds[k]? = some x := ⟨ds[k], List.getElem?_eq_getElem hlt⟩
        have hxl : x.pins.length ≤ 1048576 := HPN.out x (List.mem_of_getElem? hx)
        obtain ⟨pv, ⟨c0, c1, c2, c3⟩, hOR⟩ := (HO.out k x hx).2 (Nat.le_refl _)
        obtain ⟨hf1, hf2, hf3, hf4⟩ := (HEL.out k x hx).2
        have hst := HDT.out k x hx
        have hsm := HDM.out (k + 1)
        have hs0 := HD0.out k
        have HX := Lib.hid hx
        have HS := Lib.hid hs
        have HST := Lib.hid hst
        have hsb : 0 ≤ s := by omega
        have hsb' : s + 3 + x.pins.length ≤ 1000000000000 := by omega
        have HMK := Lib.hid (fun w h => markR_any (f k) (f k + 1) pv x.pins (s + 1) w h hxl (by omega) (by omega))
        have hBf := hB.free
        have hBc := hB.cell
        have hz : k * 4 + 3 < cs.size := (Array.getElem?_eq_some_iff.1 c3).1
        have i1 : (0 : Int) ≤ (k : Int) := by omega
        have i2 : (k : Int) < (ds.length : Int) := by omega
        have HOR := Lib.hid hOR
        obtain ⟨ap, cp, rfl⟩ := hOR.sl.len
        obtain ⟨t, ht⟩ : ∃ t : Int, s + 1 + x.pins.length = t := ⟨_, rfl⟩
        rw [ht] at HMK
        have HT := Lib.hid ht
        have ht0 : 0 ≤ t := by omega
        have ht1 : t + 2 ≤ 1000000000000 := by omega
        have hb1 := hB.set (k * 4) (.int .i64 s)
        have hO1 : OwnR (wr.setCell ⟨g, k * 4, none⟩ (.int .i64 s)) (f k) (f k + 1) (.slice ap x.pins.length cp) x.pins := HOR.out.past (Within.set (Within.refl g (g + 1) wr) g (k * 4) (.int .i64 s) (Nat.le_refl _) (by omega)) (by omega)
        have HO1 := Lib.hid hO1
        clear hx hs hst hOR hO1 ht
        go_wp2_with fail
        refine (HMK.out _ HO1.out).mono ?_
        rintro e w1 ⟨rfl, hO2, hw1⟩
        have hb2 := hw1.blk hb1 (by omega)
        have e2 := hb2.cell
        have f2 := hb2.free
        have HO2 := Lib.hid hO2
        have HW1 := Lib.hid hw1
        clear hO2 hw1 hBc hBf
        go_wp2
        have w3 : WithX lo hi P w (w1.setCell ⟨g, k * 4 + 2, none⟩ (.int .i64 t)) := ((ho.set g (k * 4) (.int .i64 s) hg.1 hg.2 hgP).on (HW1.out.subX hf1 (by omega) (by omega))).set g _ _ hg.1 hg.2 hgP
        have hmv : ∀ (j : Nat) (pv : Value) (zs : List Int), j < ds.length → j ≠ k → f j ≠ g → OwnR wr (f j) (f j + 1) pv zs → OwnR ((w1.setCell ⟨g, k * 4 + 2, none⟩ (.int .i64 t)).setCell ⟨g, k * 4 + 3, none⟩ (.int .i64 (t + 1))) (f j) (f j + 1) pv zs := by
          intro j pv zs hj hjk hjg hR
          have hne := HINJ.out j k hj hlt hjk
          have r1 := hR.past (Within.set (Within.refl g (g + 1) wr) g (k * 4) (.int .i64 s) (Nat.le_refl _) (by omega)) (by omega)
          have r2 := r1.past HW1.out (by omega)
          have r3 := r2.past (Within.set (Within.refl g (g + 1) w1) g (k * 4 + 2) (.int .i64 t) (Nat.le_refl _) (by omega)) (by omega)
          exact r3.past (Within.set (Within.refl g (g + 1) _) g (k * 4 + 3) (.int .i64 (t + 1)) (Nat.le_refl _) (by omega)) (by omega)
        refine ⟨⟨k + 1, by omega, by go_num, ⟨t + 1 + 1, rfl, by have := HS.out; have := HST.out; have := HT.out; omega⟩, ⟨set3 cs k (.int .i64 s) (.int .i64 t) (.int .i64 (t + 1)), (hb2.set _ _).set _ _, Lib.hid (fun j y hy => ⟨fun hj => ?_, fun hj => ?_⟩)⟩, w3.set g _ _ hg.1 hg.2 hgP⟩, by simp [intOf]; omega⟩
        · have hjl : j < ds.length := (List.getElem?_eq_some_iff.1 hy).1
          by_cases hjk : j = k
          · subst hjk
            obtain rfl : y = x := Option.some.inj (hy.symm.trans HX.out)
            have e1 := HS.out
            have e2 := HT.out
            rw [← e1]
            have e3 : s + 1 + (y.pins.length : Int) = t := e2
            have e4 : s + 2 + (y.pins.length : Int) = t + 1 := by omega
            rw [e3, e4]
            refine ⟨.slice ap y.pins.length cp, set3_same _ _ _ c1 hz, ?_⟩
            have r3 := HO2.out.past (Within.set (Within.refl g (g + 1) w1) g (j * 4 + 2) (.int .i64 t) (Nat.le_refl _) (by omega)) (by omega)
            exact r3.past (Within.set (Within.refl g (g + 1) _) g (j * 4 + 3) (.int .i64 (t + 1)) (Nat.le_refl _) (by omega)) (by omega)
          · obtain ⟨pv, hC, hR⟩ := (HO.out j y hy).1 (by omega)
            exact ⟨pv, set3_other _ _ _ hjk hC, hmv j pv _ hjl hjk (HEL.out j y hy).2.2.2.1 hR⟩
        · have hjl : j < ds.length := (List.getElem?_eq_some_iff.1 hy).1
          have hjk : j ≠ k := by omega
          obtain ⟨pv, hC, hR⟩ := (HO.out j y hy).2 (by omega)
          exact ⟨pv, set3_other _ _ _ hjk hC, hmv j pv _ hjl hjk (HEL.out j y hy).2.2.2.1 hR⟩
      · obtain rfl : k = ds.length := by omega
        go_wp2
        go_ret
        refine ⟨ret_i64 (by rw [hs, HDF.out]), .inr ⟨g, cap, cs, f, by rw [HLM.out], ⟨hg, hgP⟩, by rw [HLM.out]; exact hcap, by unfold maxLen; exact hmax, hB, fun i y hy => ?_, fun i j hi hj hij => HINJ.out i j (by rwa [HLM.out] at hi) (by rwa [HLM.out] at hj) hij⟩, ho⟩
        obtain ⟨d, hd, rfl⟩ := HM.out i y hy
        obtain ⟨pv, hC, hR⟩ := (HO.out i d hd).1 (List.getElem?_eq_some_iff.1 hd).1
        exact ⟨⟨pv, hC, hR⟩, (HEL.out i d hd).2⟩


set_option maxRecDepth 100000 in
set_option maxHeartbeats 2000000 in
theorem markNetlistX_any (lo hi : Nat) (v : Value) (x : Nl) (k0 : Nat) (w : World) (h : OwnNlX w lo hi v x) (hlw : hi ≤ w.heap.size) (hpn : ∀ d ∈ x.ds, d.pins.length ≤ 1048576) (hk : 0 < k0) (hk' : k0 + nsum x ≤ 1000000000) :
    Calls Tryd.prog 13 #[v, .int .i64 (k0 : Int)] w fun e w' => e = .returned (.int .i64 ((k0 + nsum x : Nat) : Int)) ∧ OwnNlX w' lo hi v (markNl k0 x) ∧ Within lo hi w w' := by
  obtain ⟨s1, s2, P, rfl, hD, hP, q1⟩ := h
  obtain ⟨nets, ds, ps⟩ := x
  simp only [nsum, markNl] at hk' ⊢
  dsimp only at hD hP hpn ⊢
  have hd0 := dsum_nonneg ds
  obtain ⟨dn, hdn⟩ : ∃ dn : Nat, dsum ds = (dn : Int) := ⟨(dsum ds).toNat, by omega⟩
  have HMD := Lib.hid (fun w h => markDeviceSX_any lo hi P s1 ds k0 w h hpn (by omega) (by omega))
  rw [hdn] at HMD hk' ⊢
  simp only [Int.toNat_natCast] at hk' ⊢
  have HMP := Lib.hid (fun w h hlw => markPortS_any P (P + 1) s2 ps (k0 + dn) w h hlw (by omega) (by omega))
  have HD := Lib.hid hD
  have HP := Lib.hid hP
  obtain ⟨a, c, rfl⟩ := hD.ods.sl.sized
  obtain ⟨a', c', rfl⟩ := hP.sl.sized
  obtain ⟨T, hT⟩ : ∃ T : Nat, k0 + dn + 2 * ps.length = T := ⟨_, rfl⟩
  have hT' : k0 + (dn + 2 * ps.length) = T := by omega
  rw [hT] at HMP
  rw [hT']
  have hcast : ((k0 : Int) + (dn : Int)) = ((k0 + dn : Nat) : Int) := by omega
  rw [hcast] at HMD
  obtain ⟨m, hm⟩ : ∃ m : Nat, k0 + dn = m := ⟨_, rfl⟩
  rw [hm] at HMD HMP ⊢
  clear hD hP hdn hT hT' hd0 hcast hm
  go_enter Tryd.func13, Tryd.ntmps13
  go_wp2_with fail
  refine (HMD.out _ (HD.out.by (by ((repeat (first | (with_reducible exact Below.refl _ _) | (with_reducible refine below_drewN ?_ _) | (with_reducible refine Below.drew ?_) | (with_reducible refine below_al ?_ _) | (with_reducible refine below_on (by assumption) ?_) | ((with_reducible refine Below.setCell ?_ ?_ _); rotate_left; focus (first | omega | (simp; done) | (simp; omega))) | (with_reducible assumption))); done)))).mono ?_
  rintro e w1 ⟨rfl, hD1, hw1⟩
  have k0_ : Blk w1 w.heap.size #[.int .i64 nets, .slice a ds.length c, .slice a' ps.length c'] 31 := hw1.within.blk (Blk.new _ rfl) (by omega)
  have hWt : Within lo hi w w1 := ((Within.refl lo hi w).alloc _).on hw1.within
  have hP1 := (HP.out.by ((Below.refl _ w).alloc (Nat.le_refl _) (.cells #[.int .i64 nets, .slice a ds.length c, .slice a' ps.length c'] 31))).pastX hw1
  have c0 := k0_.cell
  have hsz := hWt.size
  have HD1 := Lib.hid hD1
  have HP1 := Lib.hid hP1
  clear hD1 hP1 hw1
  go_wp2_with fail
  refine (HMP.out _ HP1.out (by omega)).mono ?_
  rintro e w2 ⟨rfl, hP2, hw2⟩
  have hD2 := HD1.out.off hw2
  go_wp2
  go_ret
  exact ⟨rfl, ⟨_, _, P, by rfl, hD2, hP2, q1⟩, hWt.on (hw2.sub q1.1 (by omega))⟩


end Go.Proofs.YtglddnkpccgchaaDoor
