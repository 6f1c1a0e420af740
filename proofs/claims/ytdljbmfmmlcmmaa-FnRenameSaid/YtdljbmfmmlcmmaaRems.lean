/- The reference's RemoveShorted. -/
import Derived.Test.YtdljbmfmmlcmmaaCopies
import Derived.Test.YtdljbmfmmlcmmaaSerB
import Derived.Test.YtdljbmfmmlcmmaaSpecNl
import Derived.Deep.RegionHeldLaw
import Derived.Test.YtdljbmfmmlcmmaaRank0
import Derived.Shelf.Abstract
import Derived.Test.YtdljbmfmmlcmmaaImplNl
import Derived.Test.YtdljbmfmmlcmmaaCmps
import Derived.Test.YtdljbmfmmlcmmaaNls
import Derived.Test.YtdljbmfmmlcmmaaMarks
namespace Go.Proofs.Ytdljbmfmmlcmmaa
open Go.RowKit
set_option linter.unusedVariables false
set_option linter.unusedSimpArgs false

/-- The devices that are not shorted. -/
def okD (d : Dv) : Bool := !decide (curP d.pins = curQ d.pins)
def rmS (x : Nl) : Nl := if nlB x = true then ⟨x.nets, x.ds.filter okD, x.ps⟩ else ⟨0, [], []⟩
theorem rmS_no {x : Nl} (h : nlB x = false) : rmS x = ⟨0, [], []⟩ := by simp [rmS, h]
theorem rmS_yes {x : Nl} (h : nlB x = true) : rmS x = ⟨x.nets, x.ds.filter okD, x.ps⟩ := by simp [rmS, h]
theorem filter_yes (ds : List Dv) (k : Nat) (x : Dv) (h : ds[k]? = some x) (hx : okD x = true) : (ds.take (k + 1)).filter okD = (ds.take k).filter okD ++ [x] := by
  rw [take_snoc_of ds k x h, List.filter_append]; simp [hx]
theorem filter_no (ds : List Dv) (k : Nat) (x : Dv) (h : ds[k]? = some x) (hx : okD x = false) : (ds.take (k + 1)).filter okD = (ds.take k).filter okD := by
  rw [take_snoc_of ds k x h, List.filter_append]; simp [hx]
theorem ownNl_zero (w : World) (lo hi : Nat) (h : lo ≤ hi) : OwnNl w lo hi (.agg #[.int .i64 0, .slice none 0 0, .slice none 0 0]) ⟨0, [], []⟩ :=
  ⟨_, _, lo, hi, hi, hi, rfl, .inl ⟨_, _, rfl, rfl⟩, .inl ⟨_, _, rfl, rfl⟩, ⟨Nat.le_refl _, Nat.le_refl _⟩, ⟨h, Nat.le_refl _⟩, .inl (Nat.le_refl _)⟩

end Go.Proofs.Ytdljbmfmmlcmmaa

/- slices.DeleteFunc on a slice of devices of the call's own. -/
namespace Go.Proofs.Ytdljbmfmmlcmmaa
open Go.RowKit
set_option linter.unusedVariables false
set_option linter.unusedSimpArgs false

set_option maxRecDepth 100000 in
set_option maxHeartbeats 4000000 in
theorem deleteFuncD_any (gf : Nat) (lb : Array Value) (eg : ∀ args w, (callFunc gf args).run Try.prog w = .ok (.enter gf args) w) (p : Dv → Bool) (lo hi : Nat) (sv : Value) (xs : List Dv) (w : World) (h : OwnDs w lo hi sv xs)
    (hp : ∀ (W : World) (x : Dv) (sv : Value), x ∈ xs → IntSl W sv x.pins → Calls Try.prog gf (#[.agg #[.int .i64 x.kind, sv, .int .i64 x.wd, .int .i64 x.len]] ++ lb) W fun e w' => e = .returned (.bool (p x)) ∧ Below W.heap.size W w') :
    Calls Try.prog 52 #[sv, .func (.func gf) #[] lb] w fun e w' => ∃ v', e = .returned v' ∧ OwnDs w' lo hi v' (xs.filter fun x => !p x) ∧ Within lo hi w w' := by
  have HI := Lib.hid (indexFuncD_any gf lb eg p sv xs w h.sl (fun W x sv _ hx hs => hp W x sv hx hs))
  rcases first_hit p xs with hno | ⟨k0, x0, hx0, hp0, hbf⟩
  · have hf : xs.filter (fun x => !p x) = xs := List.filter_eq_self.2 (fun x hx => by rw [hno x hx]; rfl)
    rw [hf]
    rw [fidx_miss (fun j y hy => hno y (List.mem_of_getElem? hy))] at HI
    have HO := Lib.hid h
    obtain ⟨a, c, rfl⟩ := h.sl.sized
    clear h hp hno hf
    go_enter Try.func52, Try.ntmps52
    go_wp2_with fail
    refine HI.out.mono ?_
    rintro e w1 ⟨rfl, hb1⟩
    go_wp2
    go_ret
    exact ⟨_, rfl, HO.out.by hb1, ⟨hb1.os, hb1.tape, hb1.output, hb1.size, fun k hk _ => hb1.block k hk⟩⟩
  · rw [fidx_hit hx0 hp0 hbf] at HI
    have hst := filter_first hx0 hp0 hbf
    have hk0 : k0 < xs.length := (List.getElem?_eq_some_iff.1 hx0).1
    rcases h with ⟨a, c, rfl, rfl⟩ | ⟨g, cap, cs0, f, rfl, hg, hcap, hmax, hB0, hel, hinj⟩
    · simp at hk0
    have HSZ := Lib.hid (show xs.length * 4 ≤ cs0.size by
      obtain ⟨m, hm⟩ : ∃ m, xs.length = m + 1 := ⟨xs.length - 1, by omega⟩
      obtain ⟨⟨_, q, _⟩, _⟩ := hel m xs[m] (List.getElem?_eq_getElem (by omega))
      have := (Array.getElem?_eq_some_iff.1 q.2.2.2).1
      omega)
    have HS := Lib.hid (DelSt.start (w := w) (lo := lo) (hi := hi) (g := g) (cs := cs0) (xs := xs) (f := f) (fun i x hx => hel i x hx) k0 hk0)
    rw [← hst] at HS
    have HST := Lib.hid (show ((xs.take (k0 + 1)).filter fun x => !p x).length = k0 by rw [hst, List.length_take]; omega)
    have HINJ := Lib.hid hinj
    have HP := Lib.hid hp
    have HFA := Lib.hid (fun k x (h : xs[k]? = some x) => @filter_at Dv p xs k x h)
    have HFL := Lib.hid (fun k => List.length_filter_le (fun x => !p x) (xs.take k))
    have HFD := Lib.hid (show (xs.take xs.length).filter (fun x => !p x) = xs.filter (fun x => !p x) by rw [List.take_length])
    have hmx := hmax
    unfold maxLen at hmax
    clear hp hel hinj hst hx0 hp0 hbf
    go_enter Try.func52, Try.ntmps52
    go_wp2_with fail
    refine HI.out.mono ?_
    rintro e w1 ⟨rfl, hb1⟩
    have hB1 := Blk.by hb1 hB0
    have W1 : Within g (g + 1) w w1 := ⟨hb1.os, hb1.tape, hb1.output, hb1.size, fun k hk _ => hb1.block k hk⟩
    have i0 : ((k0 : Int) == -1) = false := by simp
    clear hb1 HI
    go_wp2
    go_loopw [5, 6, 7] (fun j i _ wr => ∃ k n : Nat, k0 < k ∧ k ≤ xs.length ∧ i = .int .i64 k ∧ j = .int .i64 n ∧ Hid (n = ((xs.take k).filter fun x => !p x).length) ∧ n < k ∧ (∃ cs : Array Value, Blk wr g cs 35 ∧ Hid (xs.length * 4 ≤ cs.size) ∧ Hid (DelSt w lo hi g f xs ((xs.take k).filter fun x => !p x) k cs)) ∧ Within g (g + 1) w wr) (fun _ i _ _ => xs.length - (intOf i).toNat)
    case atStart => exact ⟨k0 + 1, k0, by omega, by omega, by go_num, rfl, Lib.hid HST.out.symm, by omega, ⟨cs0, hB1, HSZ, HS⟩, W1⟩
    case round =>
      obtain ⟨k, n, hk0k, hkl, rfl, rfl, HN, hnk, ⟨cs, hB, HZ, HD⟩, hW⟩ := hrel
      clear HS HST W1
      by_cases hlt : k < xs.length
      · obtain ⟨x, hx⟩ : ∃ x, xs[k]? = some x := ⟨xs[k], List.getElem?_eq_getElem hlt⟩
        obtain ⟨⟨pv, hC, hO⟩, _⟩ := HD.out.2 k x (Nat.le_refl _) hx
        have hfk := (HD.out.2 k x (Nat.le_refl _) hx).2
        have HC := Lib.hid hC
        have HO := Lib.hid hO
        have HX := Lib.hid hx
        obtain ⟨c0, c1, c2, c3⟩ := hC
        have hsz := (Array.getElem?_eq_some_iff.1 c3).1
        obtain ⟨d0, u0⟩ : ∃ d, cs[n * 4]? = some d := ⟨_, Array.getElem?_eq_getElem (by omega)⟩
        obtain ⟨d1, u1⟩ : ∃ d, cs[n * 4 + 1]? = some d := ⟨_, Array.getElem?_eq_getElem (by omega)⟩
        obtain ⟨d2, u2⟩ : ∃ d, cs[n * 4 + 2]? = some d := ⟨_, Array.getElem?_eq_getElem (by omega)⟩
        obtain ⟨d3, u3⟩ : ∃ d, cs[n * 4 + 3]? = some d := ⟨_, Array.getElem?_eq_getElem (by omega)⟩
        have HSZ := Lib.hid hsz
        clear hsz
        have hcall := HP.out
        have HCL := Lib.hid (fun W h => HP.out W x pv (List.mem_of_getElem? hx) h)
        have hBc := hB.cell
        have hBl := hB.lt
        obtain ⟨a1, c1', rfl⟩ := hO.sl.len
        have i1 : (0 : Int) ≤ (k : Int) := by omega
        have i2 : (k : Int) < (xs.length : Int) := by omega
        have i3 : (0 : Int) ≤ (n : Int) := by omega
        have i4 : (n : Int) < (xs.length : Int) := by omega
        have HFX := Lib.hid (HFA.out k x hx)
        have hS := Lib.hid (show IntSl wr (.slice a1 x.pins.length c1') x.pins from (HO.out.past hW (by omega)).sl)
        clear hx hO hcall
        cases hq : p x with
        | true =>
          rw [hq] at HCL HFX
          simp only [if_true, List.append_nil] at HFX
          clear hq
          go_wp2_with (go_at_fn gf; refine (HCL.out _ (hS.out.by (by ((repeat (first | (with_reducible exact Below.refl _ _) | (with_reducible refine below_drewN ?_ _) | (with_reducible refine Below.drew ?_) | (with_reducible refine below_al ?_ _) | (with_reducible refine below_on (by assumption) ?_) | ((with_reducible refine Below.setCell ?_ ?_ _); rotate_left; focus (first | omega | (simp; done) | (simp; omega))) | (with_reducible assumption))); done)))).mono ?_; rintro e w2 ⟨rfl, hb2⟩; have hb3 : Below wr.heap.size wr w2 := (by ((repeat (first | (with_reducible exact Below.refl _ _) | (with_reducible refine below_drewN ?_ _) | (with_reducible refine Below.drew ?_) | (with_reducible refine below_al ?_ _) | (with_reducible refine below_on (by assumption) ?_) | ((with_reducible refine Below.setCell ?_ ?_ _); rotate_left; focus (first | omega | (simp; done) | (simp; omega))) | (with_reducible assumption))); done)))
          exact ⟨⟨k + 1, n, by omega, by omega, by go_num, rfl, Lib.hid (by rw [HFX.out]; exact HN.out), by omega, ⟨cs, Blk.by hb3 hB, HZ, Lib.hid (by rw [HFX.out]; exact HD.out.skip)⟩, hW.on ⟨hb3.os, hb3.tape, hb3.output, hb3.size, fun k hk _ => hb3.block k hk⟩⟩, by simp [intOf]; omega⟩
        | false =>
          rw [hq] at HCL HFX
          simp only [Bool.false_eq_true, if_false] at HFX
          have HQ := Lib.hid hq
          clear hq
          go_wp2_with (go_at_fn gf; refine (HCL.out _ (hS.out.by (by ((repeat (first | (with_reducible exact Below.refl _ _) | (with_reducible refine below_drewN ?_ _) | (with_reducible refine Below.drew ?_) | (with_reducible refine below_al ?_ _) | (with_reducible refine below_on (by assumption) ?_) | ((with_reducible refine Below.setCell ?_ ?_ _); rotate_left; focus (first | omega | (simp; done) | (simp; omega))) | (with_reducible assumption))); done)))).mono ?_; rintro e w2 ⟨rfl, hb2⟩; have hb3 : Below wr.heap.size wr w2 := (by ((repeat (first | (with_reducible exact Below.refl _ _) | (with_reducible refine below_drewN ?_ _) | (with_reducible refine Below.drew ?_) | (with_reducible refine below_al ?_ _) | (with_reducible refine below_on (by assumption) ?_) | ((with_reducible refine Below.setCell ?_ ?_ _); rotate_left; focus (first | omega | (simp; done) | (simp; omega))) | (with_reducible assumption))); done)); have kB : Blk w2 wr.heap.size #[.int .i64 x.kind, .slice a1 x.pins.length c1', .int .i64 x.wd, .int .i64 x.len] 35 := Blk.by hb2 (Blk.new _ rfl); have kBc := kB.cell; have kG := Blk.by hb3 hB; have kGc := kG.cell; have kGf := kG.free)
          have hW2 : Within g (g + 1) w w2 := hW.on ⟨hb3.os, hb3.tape, hb3.output, hb3.size, fun k hk _ => hb3.block k hk⟩
          exact ⟨⟨k + 1, n + 1, by omega, by omega, by go_num, by go_num, Lib.hid (by rw [HFX.out, List.length_append]; have := HN.out; simp; omega), by omega, ⟨set4 cs n (.int .i64 x.kind) (.slice a1 x.pins.length c1') (.int .i64 x.wd) (.int .i64 x.len), (((kG.set _ _).set _ _).set _ _).set _ _, Lib.hid (by have := HZ.out; simp [set4]; omega), Lib.hid (by
            rw [HFX.out]
            have hh := HD.out.push (by have := HN.out; omega) HX.out HC.out HO.out
            rw [← HN.out] at hh
            exact hh)⟩, (((hW2.on (Within.off _)).on (Within.off _)).on (Within.off _)).on (Within.off _)⟩, by simp [intOf]; omega⟩
      · obtain rfl : k = xs.length := by omega
        rw [HFD.out] at HN HD
        have hBl := hB.lt
        have hBc := hB.cell
        have hBf := hB.free
        have i3 : (0 : Int) ≤ (n : Int) := by omega
        have i4 : (n : Int) ≤ (xs.length : Int) := by omega
        have i5 : (n : Int) ≤ (cap : Int) := by omega
        obtain ⟨vs, hvl, hcl⟩ : ∃ vs : List Value, vs.length = (xs.length - n) * 4 ∧ ∀ ty, (Builtin.clear_ #[24] ty #[.slice (some ⟨g, n * 4, none⟩) (xs.length - n) (cap - n)]).run Try.prog wr = .ok (.tuple #[]) (wr.setCells g (n * 4) vs) := by
          obtain ⟨vs, h1, h2⟩ := run_clear_dev wr 0 g (n * 4) (xs.length - n) (cap - n) (by omega) (fun j hj => by rw [hBc]; rw [Array.getElem?_eq_getElem (by have := HZ.out; omega)]; rfl) (fun j => hBf j)
          exact ⟨vs, h1, fun ty => h2⟩
        obtain ⟨cs', hB', he', hW'⟩ := Blk.setCells g vs (n * 4) wr cs hB
        generalize wr.setCells g (n * 4) vs = w9 at *
        clear hBc hBf hvl
        go_wp2
        go_ret
        have hN := HN.out
        have hres := HD.out.done HINJ.out (hW.on hW') hB' (by rw [← hN]; exact he') hg (cap := cap) (by omega) hmx
        rw [← hN] at hres
        exact ⟨.slice (some ⟨g, 0, none⟩) n cap, by rfl, hres, (hW.on hW').sub hg.1 (by omega)⟩
end Go.Proofs.Ytdljbmfmmlcmmaa

/- The program's RemoveShorted. -/
namespace Go.Proofs.Ytdljbmfmmlcmmaa
open Go.RowKit
set_option linter.unusedVariables false
set_option linter.unusedSimpArgs false

set_option maxRecDepth 100000 in
set_option maxHeartbeats 1000000 in
theorem implRm_no (x : Nl) (v : Value) (w : World) (h : NlV w v x) (hok : ∀ p ∈ x.ps, p.ok) (hnn : Fits x.nets) (hv : nlB x = false) :
    Calls Try.prog 32 #[v] w fun e w' => ∃ v', e = .returned v' ∧ OwnNl w' w.heap.size w'.heap.size v' (rmS x) ∧ Below w.heap.size w w' := by
  rw [rmS_no hv]
  have HV := Lib.hid (fun v w h => implNl_any x v w h hok hnn)
  rw [hv] at HV
  have HN := Lib.hid h
  obtain ⟨a, c, a', c', rfl⟩ := h.sized
  clear h hok hv
  go_enter Try.func32, Try.ntmps32
  go_wp2_with (go_at_call 19; refine (HV.out _ _ (HN.out.by (by ((repeat (first | (with_reducible exact Below.refl _ _) | (with_reducible refine below_drewN ?_ _) | (with_reducible refine Below.drew ?_) | (with_reducible refine below_al ?_ _) | (with_reducible refine below_on (by assumption) ?_) | ((with_reducible refine Below.setCell ?_ ?_ _); rotate_left; focus (first | omega | (simp; done) | (simp; omega))) | (with_reducible assumption))); done)))).mono ?_; rintro e w1 ⟨rfl, hb1⟩; have k1 : Blk w1 (w.heap.size + 1) #[.int .i64 0, .slice none 0 0, .slice none 0 0] 27 := (by ((repeat (first | (with_reducible assumption) | (with_reducible refine Blk.drewN ?_ _) | (with_reducible refine Blk.drew ?_) | ((with_reducible refine Blk.new _ ?_); focus (first | omega | (simp; done) | (simp; omega))) | (with_reducible refine Blk.past ?_ _) | ((with_reducible refine Blk.apart ?_ _ _ _ ?_); rotate_left; focus (first | omega | (simp; done) | (simp; omega))) | (with_reducible refine Blk.by (by assumption) ?_))); done)); have f1 := k1.free; have c1 := k1.cell; have l1 := k1.lt)
  exact bodyPost_ret (v := .agg #[.int .i64 0, .slice none 0 0, .slice none 0 0]) (by simp [results, Try.results32, go_sem, *]) rfl ⟨_, rfl, ownNl_zero _ _ _ (by simp; omega), (by ((repeat (first | (with_reducible exact Below.refl _ _) | (with_reducible refine below_drewN ?_ _) | (with_reducible refine Below.drew ?_) | (with_reducible refine below_al ?_ _) | (with_reducible refine below_on (by assumption) ?_) | ((with_reducible refine Below.setCell ?_ ?_ _); rotate_left; focus (first | omega | (simp; done) | (simp; omega))) | (with_reducible assumption))); done))⟩

set_option maxRecDepth 100000 in
set_option maxHeartbeats 4000000 in
theorem implRm_yes (x : Nl) (v : Value) (w : World) (h : NlV w v x) (hok : ∀ p ∈ x.ps, p.ok) (hnn : Fits x.nets) (hv : nlB x = true) :
    Calls Try.prog 32 #[v] w fun e w' => ∃ v', e = .returned v' ∧ OwnNl w' w.heap.size w'.heap.size v' (rmS x) ∧ Below w.heap.size w w' := by
  rw [rmS_yes hv]
  have HV := Lib.hid (fun v w h => implNl_any x v w h hok hnn)
  rw [hv] at HV
  have HN := Lib.hid h
  obtain ⟨_, hl24, hp8, hdv, _⟩ := nlB_facts hv
  have HCP := Lib.hid (fun v w h => copyNetlist_any x v w h (by omega) (by omega) (fun d hd => by have h1 := (dvB_pins (hdv d hd)).1; have h2 := (dvB_pins (hdv d hd)).2.1; exact ⟨by omega, fun e => by rw [e] at h2; simp at h2⟩))
  have HSH := Lib.hid (fun d (hd : d ∈ x.ds) => shp_of (hdv d hd))
  have HDL := Lib.hid (fun lo hi sv w (h : OwnDs w lo hi sv x.ds) => deleteFuncD_any 39 #[] (fun _ _ => rfl) shB lo hi sv x.ds w h (fun W y sv hy hs => shorted_any y sv W hs (HSH.out y hy)))
  obtain ⟨a, c, a', c', rfl⟩ := h.sized
  obtain ⟨nets, ds, ps⟩ := x
  dsimp only at HN HV HCP HDL hl24 hp8 ⊢
  have hfo : ds.filter (fun x => !shB x) = ds.filter okD := rfl
  rw [hfo] at HDL
  clear h hok hv hdv hfo
  go_enter Try.func32, Try.ntmps32
  go_wp2_with fail
  refine (HV.out _ _ (HN.out.by (by ((repeat (first | (with_reducible exact Below.refl _ _) | (with_reducible refine below_drewN ?_ _) | (with_reducible refine Below.drew ?_) | (with_reducible refine below_al ?_ _) | (with_reducible refine below_on (by assumption) ?_) | ((with_reducible refine Below.setCell ?_ ?_ _); rotate_left; focus (first | omega | (simp; done) | (simp; omega))) | (with_reducible assumption))); done)))).mono ?_
  rintro e w1 ⟨rfl, hb1⟩
  have k0 : Blk w1 w.heap.size #[.int .i64 nets, .slice a ds.length c, .slice a' ps.length c'] 27 := (by ((repeat (first | (with_reducible assumption) | (with_reducible refine Blk.drewN ?_ _) | (with_reducible refine Blk.drew ?_) | ((with_reducible refine Blk.new _ ?_); focus (first | omega | (simp; done) | (simp; omega))) | (with_reducible refine Blk.past ?_ _) | ((with_reducible refine Blk.apart ?_ _ _ _ ?_); rotate_left; focus (first | omega | (simp; done) | (simp; omega))) | (with_reducible refine Blk.by (by assumption) ?_))); done))
  have k1 : Blk w1 (w.heap.size + 1) #[.int .i64 0, .slice none 0 0, .slice none 0 0] 27 := (by ((repeat (first | (with_reducible assumption) | (with_reducible refine Blk.drewN ?_ _) | (with_reducible refine Blk.drew ?_) | ((with_reducible refine Blk.new _ ?_); focus (first | omega | (simp; done) | (simp; omega))) | (with_reducible refine Blk.past ?_ _) | ((with_reducible refine Blk.apart ?_ _ _ _ ?_); rotate_left; focus (first | omega | (simp; done) | (simp; omega))) | (with_reducible refine Blk.by (by assumption) ?_))); done))
  have hB1 : Below w.heap.size w w1 := (by ((repeat (first | (with_reducible exact Below.refl _ _) | (with_reducible refine below_drewN ?_ _) | (with_reducible refine Below.drew ?_) | (with_reducible refine below_al ?_ _) | (with_reducible refine below_on (by assumption) ?_) | ((with_reducible refine Below.setCell ?_ ?_ _); rotate_left; focus (first | omega | (simp; done) | (simp; omega))) | (with_reducible assumption))); done))
  have l1 := k1.lt
  have c0 := k0.cell
  clear hb1
  go_wp2_with fail
  refine (HCP.out _ _ (HN.out.by hB1)).mono ?_
  rintro e w2 ⟨v2, rfl, hO, hb2⟩
  obtain ⟨s1, s2, lo1, hi1, lo2, hi2, rfl, hOD, hOP, hi1', hi2', hap⟩ := hO
  replace k1 := Blk.by hb2 k1
  have hB2 := below_on hb2 hB1
  have hsz2 := hb2.size
  obtain ⟨a1, c1, rfl⟩ := hOD.sl.sized
  obtain ⟨a2, c2, rfl⟩ := hOP.sl.sized
  dsimp only at hOD hOP
  have HOD := Lib.hid hOD
  have HOP := Lib.hid hOP
  clear c0 k0 hb2 hOD hOP HN HV HCP
  have c1' := k1.cell
  go_wp2_with (go_at_call 52; refine (HDL.out lo1 hi1 _ _ (HOD.out.by (by ((repeat (first | (with_reducible exact Below.refl _ _) | (with_reducible refine below_drewN ?_ _) | (with_reducible refine Below.drew ?_) | (with_reducible refine below_al ?_ _) | (with_reducible refine below_on (by assumption) ?_) | ((with_reducible refine Below.setCell ?_ ?_ _); rotate_left; focus (first | omega | (simp; done) | (simp; omega))) | (with_reducible assumption))); done)))).mono ?_; rintro e w3 ⟨v3, rfl, hO3, hw3⟩; obtain ⟨a3, c3, rfl⟩ := hO3.sl.sized; have k3 : Blk w3 w2.heap.size #[.int .i64 nets, .slice a1 ds.length c1, .slice a2 ps.length c2] 27 := hw3.blk (Blk.new _ rfl) (by omega); have k1' := hw3.blk (k1.past _) (by omega); have c3' := k3.cell; have f3' := k3.free; have c1'' := k1'.cell; have f1'' := k1'.free; have hne : ¬ w2.heap.size = w.heap.size + 1 := (by omega))
  have hsz3 := hw3.size
  simp only [World.size_alloc] at hsz3
  have hB3 : Below w.heap.size w w3 := hw3.below (below_al hB2 (.cells #[.int .i64 nets, .slice a1 ds.length c1, .slice a2 ps.length c2] 27)) (by omega)
  have hOP3 := (HOP.out.by ((Below.refl _ w2).alloc (Nat.le_refl _) (.cells #[.int .i64 nets, .slice a1 ds.length c1, .slice a2 ps.length c2] 27))).past hw3 (by omega)
  refine bodyPost_ret (v := .agg #[.int .i64 nets, .slice a3 (ds.filter okD).length c3, .slice a2 ps.length c2]) (by simp [results, Try.results32, go_sem, *]) rfl ⟨_, rfl, ⟨_, _, lo1, hi1, lo2, hi2, rfl, ?_, ?_, ⟨by omega, by simp; omega⟩, ⟨by omega, by simp; omega⟩, hap⟩, ?_⟩
  · exact ((((hO3.past (Within.off _) (by omega)).past (Within.off _) (by omega)).past (Within.off _) (by omega)).past (Within.off _) (by omega))
  · exact ((((hOP3.past (Within.off _) (by omega)).past (Within.off _) (by omega)).past (Within.off _) (by omega)).past (Within.off _) (by omega))
  · repeat (first | (with_reducible exact hB3) | ((with_reducible refine Below.setCell ?_ ?_ _); rotate_left; focus (simp; try omega)))
end Go.Proofs.Ytdljbmfmmlcmmaa

/- Bounds of what RemoveShorted answers; both contracts. -/
namespace Go.Proofs.Ytdljbmfmmlcmmaa
open Go.RowKit
set_option linter.unusedVariables false
theorem namesAll_nn (ps : List Pt) : 0 ≤ namesAll ps := namesAll_nonneg ps
theorem rmS_bounds {x : Nl} (h : ∀ d ∈ x.ds, d.pins.length ≤ 1048576) (hb : nlSize x.ds x.ps ≤ 1048576) : (∀ d ∈ (rmS x).ds, d.pins.length ≤ 1048576) ∧ nsum (rmS x) ≤ 4000000 := by
  have hx := nsum_le hb
  cases hv : nlB x with
  | false => rw [rmS_no hv]; exact ⟨fun d hd => by simp at hd, by simp [nsum, dsum]⟩
  | true =>
    rw [rmS_yes hv]
    refine ⟨fun d hd => h d (List.mem_filter.1 hd).1, ?_⟩
    have := dsum_filter okD x.ds
    unfold nsum at hx ⊢
    dsimp only
    omega
theorem implRm_any (x : Nl) (v : Value) (w : World) (h : NlV w v x) (hok : ∀ p ∈ x.ps, p.ok) (hnn : Fits x.nets) :
    Calls Try.prog 32 #[v] w fun e w' => ∃ v', e = .returned v' ∧ OwnNl w' w.heap.size w'.heap.size v' (rmS x) ∧ Below w.heap.size w w' := by
  cases hv : nlB x with
  | false => exact implRm_no x v w h hok hnn hv
  | true => exact implRm_yes x v w h hok hnn hv
end Go.Proofs.Ytdljbmfmmlcmmaa
