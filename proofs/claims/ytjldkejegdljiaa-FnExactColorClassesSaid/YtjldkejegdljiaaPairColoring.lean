/- Contracts of the functions of package laws over a coloring. -/
import Derived.Test.YtjldkejegdljiaaBase
import Derived.Test.YtjldkejegdljiaaDevs
namespace Go.Proofs.Ytjldkejegdljiaa
open Go.RowKit
set_option linter.unusedVariables false
set_option linter.unusedSimpArgs false

/-- A value that reads as these two lists. -/
def CoV (w : World) (v : Value) (x : List Int × List Int) : Prop := ∃ s1 s2, v = .agg #[s1, s2] ∧ IntSl w s1 x.1 ∧ IntSl w s2 x.2
theorem CoV.by {w w1 : World} {v : Value} {x : List Int × List Int} (hb : Below w.heap.size w w1) (h : CoV w v x) : CoV w1 v x := by
  obtain ⟨s1, s2, h1, h2, h3⟩ := h; exact ⟨s1, s2, h1, h2.by hb, h3.by hb⟩
theorem CoV.sized {w : World} {v : Value} {x : List Int × List Int} (h : CoV w v x) : ∃ a c a' c', v = .agg #[.slice a x.1.length c, .slice a' x.2.length c'] := by
  obtain ⟨s1, s2, rfl, hd, hp⟩ := h
  obtain ⟨a, c, rfl⟩ := hd.len
  obtain ⟨a', c', rfl⟩ := hp.len
  exact ⟨a, c, a', c', rfl⟩

set_option maxRecDepth 100000 in
set_option maxHeartbeats 1000000 in
theorem szColoring_any (v : Value) (x : List Int × List Int) (l : Int) (w : World) (h : CoV w v x) (hl : 0 ≤ l) (hl' : l ≤ 1048576) :
    Calls Try.prog 24 #[v, .int .i64 l] w fun e w' => e = .returned (.int .i64 (if l < x.1.length + x.2.length then -1 else l - (x.1.length + x.2.length))) ∧ Below w.heap.size w w' := by
  obtain ⟨s1, s2, rfl, h1, h2⟩ := h
  obtain ⟨xs, ys⟩ := x
  dsimp only at h1 h2 ⊢
  obtain ⟨r, hr⟩ : ∃ r : Int, (if l < xs.length + ys.length then (-1 : Int) else l - (xs.length + ys.length)) = r := ⟨_, rfl⟩
  rw [hr]
  have hS1 := fun w h => szInt64S_any s1 xs l w h hl hl'
  have H1 := Lib.hid h1
  have H2 := Lib.hid h2
  obtain ⟨a, c, rfl⟩ := h1.len
  obtain ⟨a', c', rfl⟩ := h2.len
  clear h1 h2
  by_cases hb : l < xs.length
  · simp only [if_pos hb] at hS1
    have HS := Lib.hid hS1
    have HR := Lib.hid (show (-1 : Int) = r by rw [← hr, if_pos (by omega)])
    clear hr hS1
    go_enter Try.func24, Try.ntmps24
    go_wp2_with fail
    refine (HS.out _ (H1.out.by (by ((repeat (first | (with_reducible exact Below.refl _ _) | (with_reducible refine below_drewN ?_ _) | (with_reducible refine Below.drew ?_) | (with_reducible refine below_al ?_ _) | (with_reducible refine below_on (by assumption) ?_) | ((with_reducible refine Below.setCell ?_ ?_ _); rotate_left; focus (first | omega | (simp; done) | (simp; omega))) | (with_reducible assumption))); done)))).mono ?_
    rintro e w1 ⟨rfl, rfl⟩
    go_wp2
    go_ret
    exact ⟨ret_i64 HR.out, (by ((repeat (first | (with_reducible exact Below.refl _ _) | (with_reducible refine below_drewN ?_ _) | (with_reducible refine Below.drew ?_) | (with_reducible refine below_al ?_ _) | (with_reducible refine below_on (by assumption) ?_) | ((with_reducible refine Below.setCell ?_ ?_ _); rotate_left; focus (first | omega | (simp; done) | (simp; omega))) | (with_reducible assumption))); done))⟩
  · simp only [if_neg hb] at hS1
    obtain ⟨m, hm⟩ : ∃ m : Int, l - xs.length = m := ⟨_, rfl⟩
    have hm0 : 0 ≤ m := by omega
    have hm1 : m ≤ 1048576 := by omega
    rw [hm] at hS1
    have HS := Lib.hid hS1
    have hSP := fun w h => szInt64S_any (.slice a' ys.length c') ys m w h hm0 hm1
    by_cases hb' : m < ys.length
    · simp only [if_pos hb'] at hSP
      have HP := Lib.hid hSP
      have HR := Lib.hid (show (-1 : Int) = r by rw [← hr, if_pos (by omega)])
      clear hr hS1 hSP hm hb'
      go_enter Try.func24, Try.ntmps24
      go_wp2_with fail
      refine (HS.out _ (H1.out.by (by ((repeat (first | (with_reducible exact Below.refl _ _) | (with_reducible refine below_drewN ?_ _) | (with_reducible refine Below.drew ?_) | (with_reducible refine below_al ?_ _) | (with_reducible refine below_on (by assumption) ?_) | ((with_reducible refine Below.setCell ?_ ?_ _); rotate_left; focus (first | omega | (simp; done) | (simp; omega))) | (with_reducible assumption))); done)))).mono ?_
      rintro e w1 ⟨rfl, rfl⟩
      go_wp2_with fail
      refine (HP.out _ (H2.out.by (by ((repeat (first | (with_reducible exact Below.refl _ _) | (with_reducible refine below_drewN ?_ _) | (with_reducible refine Below.drew ?_) | (with_reducible refine below_al ?_ _) | (with_reducible refine below_on (by assumption) ?_) | ((with_reducible refine Below.setCell ?_ ?_ _); rotate_left; focus (first | omega | (simp; done) | (simp; omega))) | (with_reducible assumption))); done)))).mono ?_
      rintro e w1 ⟨rfl, rfl⟩
      go_wp2
      go_ret
      exact ⟨ret_i64 HR.out, (by ((repeat (first | (with_reducible exact Below.refl _ _) | (with_reducible refine below_drewN ?_ _) | (with_reducible refine Below.drew ?_) | (with_reducible refine below_al ?_ _) | (with_reducible refine below_on (by assumption) ?_) | ((with_reducible refine Below.setCell ?_ ?_ _); rotate_left; focus (first | omega | (simp; done) | (simp; omega))) | (with_reducible assumption))); done))⟩
    · simp only [if_neg hb'] at hSP
      have HR := Lib.hid (show m - ys.length = r by rw [← hr, if_neg (by omega)]; omega)
      obtain ⟨q, hq⟩ : ∃ q : Int, m - ys.length = q := ⟨_, rfl⟩
      have hq0 : 0 ≤ q := by omega
      rw [hq] at hSP HR
      have HP := Lib.hid hSP
      clear hr hS1 hSP hm hb' hq
      go_enter Try.func24, Try.ntmps24
      go_wp2_with fail
      refine (HS.out _ (H1.out.by (by ((repeat (first | (with_reducible exact Below.refl _ _) | (with_reducible refine below_drewN ?_ _) | (with_reducible refine Below.drew ?_) | (with_reducible refine below_al ?_ _) | (with_reducible refine below_on (by assumption) ?_) | ((with_reducible refine Below.setCell ?_ ?_ _); rotate_left; focus (first | omega | (simp; done) | (simp; omega))) | (with_reducible assumption))); done)))).mono ?_
      rintro e w1 ⟨rfl, rfl⟩
      go_wp2_with fail
      refine (HP.out _ (H2.out.by (by ((repeat (first | (with_reducible exact Below.refl _ _) | (with_reducible refine below_drewN ?_ _) | (with_reducible refine Below.drew ?_) | (with_reducible refine below_al ?_ _) | (with_reducible refine below_on (by assumption) ?_) | ((with_reducible refine Below.setCell ?_ ?_ _); rotate_left; focus (first | omega | (simp; done) | (simp; omega))) | (with_reducible assumption))); done)))).mono ?_
      rintro e w1 ⟨rfl, rfl⟩
      go_wp2
      go_ret
      exact ⟨ret_i64 HR.out, (by ((repeat (first | (with_reducible exact Below.refl _ _) | (with_reducible refine below_drewN ?_ _) | (with_reducible refine Below.drew ?_) | (with_reducible refine below_al ?_ _) | (with_reducible refine below_on (by assumption) ?_) | ((with_reducible refine Below.setCell ?_ ?_ _); rotate_left; focus (first | omega | (simp; done) | (simp; omega))) | (with_reducible assumption))); done))⟩

set_option maxRecDepth 100000 in
set_option maxHeartbeats 2000000 in
theorem toColoring_own (v : Value) (x : List Int × List Int) (w : World) (h : CoV w v x) (hn : x.1.length ≤ 1048576) (hn' : x.2.length ≤ 1048576) :
    Calls Try.prog 26 #[v] w fun e w' => ∃ g f, e = .returned (.agg #[.slice (some ⟨g, 0, none⟩) x.1.length x.1.length, .slice (some ⟨f, 0, none⟩) x.2.length x.2.length]) ∧ IBlk w' g x.1 ∧ IBlk w' f x.2 ∧ w.heap.size ≤ g ∧ g < f ∧ Below w.heap.size w w' := by
  obtain ⟨s1, s2, rfl, h1, h2⟩ := h
  obtain ⟨xs, ys⟩ := x
  dsimp only at h1 h2 hn hn' ⊢
  have HD := Lib.hid (fun w h => toInt64S_any s1 xs w h hn)
  have HP := Lib.hid (fun w h => toInt64S_any s2 ys w h hn')
  have H1 := Lib.hid h1
  have H2 := Lib.hid h2
  obtain ⟨a, c, rfl⟩ := h1.len
  obtain ⟨a', c', rfl⟩ := h2.len
  clear h1 h2
  go_enter Try.func26, Try.ntmps26
  go_wp2_with fail
  refine (HD.out _ (H1.out.by (by ((repeat (first | (with_reducible exact Below.refl _ _) | (with_reducible refine below_drewN ?_ _) | (with_reducible refine Below.drew ?_) | (with_reducible refine below_al ?_ _) | (with_reducible refine below_on (by assumption) ?_) | ((with_reducible refine Below.setCell ?_ ?_ _); rotate_left; focus (first | omega | (simp; done) | (simp; omega))) | (with_reducible assumption))); done)))).mono ?_
  rintro e w1 ⟨g, rfl, hG, hge, hb1⟩
  have k0 : Blk w1 w.heap.size #[.slice a xs.length c, .slice a' ys.length c'] 49 := (by ((repeat (first | (with_reducible assumption) | (with_reducible refine Blk.drewN ?_ _) | (with_reducible refine Blk.drew ?_) | ((with_reducible refine Blk.new _ ?_); focus (first | omega | (simp; done) | (simp; omega))) | (with_reducible refine Blk.past ?_ _) | ((with_reducible refine Blk.apart ?_ _ _ _ ?_); rotate_left; focus (first | omega | (simp; done) | (simp; omega))) | (with_reducible refine Blk.by (by assumption) ?_))); done))
  have k1 : Blk w1 (w.heap.size + 1) #[.slice none 0 0, .slice none 0 0] 52 := (by ((repeat (first | (with_reducible assumption) | (with_reducible refine Blk.drewN ?_ _) | (with_reducible refine Blk.drew ?_) | ((with_reducible refine Blk.new _ ?_); focus (first | omega | (simp; done) | (simp; omega))) | (with_reducible refine Blk.past ?_ _) | ((with_reducible refine Blk.apart ?_ _ _ _ ?_); rotate_left; focus (first | omega | (simp; done) | (simp; omega))) | (with_reducible refine Blk.by (by assumption) ?_))); done))
  have k2 : Blk w1 (w.heap.size + 1 + 1) #[.slice none 0 0, .slice none 0 0] 52 := (by ((repeat (first | (with_reducible assumption) | (with_reducible refine Blk.drewN ?_ _) | (with_reducible refine Blk.drew ?_) | ((with_reducible refine Blk.new _ ?_); focus (first | omega | (simp; done) | (simp; omega))) | (with_reducible refine Blk.past ?_ _) | ((with_reducible refine Blk.apart ?_ _ _ _ ?_); rotate_left; focus (first | omega | (simp; done) | (simp; omega))) | (with_reducible refine Blk.by (by assumption) ?_))); done))
  have l2 := k2.lt
  have c0 := k0.cell
  have c2 := k2.cell
  have f2 := k2.free
  simp at hge
  go_wp2_with fail
  have hbw : Below w.heap.size w (w1.setCell ⟨w.heap.size + 1 + 1, 0, none⟩ (.slice (some ⟨g, 0, none⟩) xs.length xs.length)) := (by ((repeat (first | (with_reducible exact Below.refl _ _) | (with_reducible refine below_drewN ?_ _) | (with_reducible refine Below.drew ?_) | (with_reducible refine below_al ?_ _) | (with_reducible refine below_on (by assumption) ?_) | ((with_reducible refine Below.setCell ?_ ?_ _); rotate_left; focus (first | omega | (simp; done) | (simp; omega))) | (with_reducible assumption))); done))
  refine (HP.out _ (H2.out.by hbw)).mono ?_
  rintro e w2 ⟨f, rfl, hF, hfe, hb2⟩
  replace k1 : Blk w2 (w.heap.size + 1) #[.slice none 0 0, .slice none 0 0] 52 := (by ((repeat (first | (with_reducible assumption) | (with_reducible refine Blk.drewN ?_ _) | (with_reducible refine Blk.drew ?_) | ((with_reducible refine Blk.new _ ?_); focus (first | omega | (simp; done) | (simp; omega))) | (with_reducible refine Blk.past ?_ _) | ((with_reducible refine Blk.apart ?_ _ _ _ ?_); rotate_left; focus (first | omega | (simp; done) | (simp; omega))) | (with_reducible refine Blk.by (by assumption) ?_))); done))
  replace k2 : Blk w2 (w.heap.size + 1 + 1) #[.slice (some ⟨g, 0, none⟩) xs.length xs.length, .slice none 0 0] 52 := Blk.by hb2 (k2.set 0 _)
  have hgl := hG.lt
  replace hG := (hG.apart (w.heap.size + 1 + 1) 0 (.slice (some ⟨g, 0, none⟩) xs.length xs.length) (by omega)).by hb2
  replace hbw := below_on hb2 hbw
  have hgf : g < f := by simp at hfe; omega
  clear c0 k0 c2 f2 hb1 hb2
  have c1 := k1.cell
  have f1 := k1.free
  have c2 := k2.cell
  have f2 := k2.free
  have l1 := k1.lt
  have l2 := k2.lt
  go_wp2
  refine bodyPost_ret (v := .agg #[.slice (some ⟨g, 0, none⟩) xs.length xs.length, .slice (some ⟨f, 0, none⟩) ys.length ys.length]) (by simp [results, Try.results26, go_sem, *]) rfl ⟨g, f, rfl, ?_, ?_, by omega, hgf, ?_⟩
  · repeat (first | (with_reducible exact hG) | ((with_reducible refine IBlk.apart ?_ _ _ _ ?_); rotate_left; focus omega))
  · repeat (first | (with_reducible exact hF) | ((with_reducible refine IBlk.apart ?_ _ _ _ ?_); rotate_left; focus omega))
  · repeat (first | (with_reducible exact hbw) | ((with_reducible refine Below.setCell ?_ ?_ _); rotate_left; focus (simp; try omega)))
theorem toColoring_any (v : Value) (x : List Int × List Int) (w : World) (h : CoV w v x) (hn : x.1.length ≤ 1048576) (hn' : x.2.length ≤ 1048576) :
    Calls Try.prog 26 #[v] w fun e w' => ∃ v', e = .returned v' ∧ CoV w' v' x ∧ Below w.heap.size w w' := by
  refine (toColoring_own v x w h hn hn').mono ?_
  rintro e w' ⟨g, f, rfl, hG, hF, _, _, hb⟩
  exact ⟨_, rfl, ⟨_, _, rfl, hG.sl (by omega), hF.sl (by omega)⟩, hb⟩

set_option maxRecDepth 100000 in
set_option maxHeartbeats 2000000 in
theorem eqColoring_refl (v1 v2 : Value) (x : List Int × List Int) (w : World) (h1 : CoV w v1 x) (h2 : CoV w v2 x) :
    Calls Try.prog 28 #[v1, v2] w fun e w' => e = .returned (.bool true) ∧ Below w.heap.size w w' := by
  obtain ⟨s1, s2, rfl, hd, hp⟩ := h1
  obtain ⟨t1, t2, rfl, hd', hp'⟩ := h2
  obtain ⟨ds, ps⟩ := x
  dsimp only at hd hp hd' hp' ⊢
  have HD := Lib.hid (fun s1 s2 w h h' => eqInt64S_refl s1 s2 ds w h h')
  have HP := Lib.hid (fun s1 s2 w h h' => eqInt64S_refl s1 s2 ps w h h')
  have H1 := Lib.hid hd
  have H2 := Lib.hid hp
  have H3 := Lib.hid hd'
  have H4 := Lib.hid hp'
  obtain ⟨a, c, rfl⟩ := hd.len
  obtain ⟨a', c', rfl⟩ := hp.len
  obtain ⟨b, d, rfl⟩ := hd'.len
  obtain ⟨b', d', rfl⟩ := hp'.len
  clear hd hp hd' hp'
  go_enter Try.func28, Try.ntmps28
  go_wp2_with fail
  refine (HD.out _ _ _ (H1.out.by (by ((repeat (first | (with_reducible exact Below.refl _ _) | (with_reducible refine below_drewN ?_ _) | (with_reducible refine Below.drew ?_) | (with_reducible refine below_al ?_ _) | (with_reducible refine below_on (by assumption) ?_) | ((with_reducible refine Below.setCell ?_ ?_ _); rotate_left; focus (first | omega | (simp; done) | (simp; omega))) | (with_reducible assumption))); done))) (H3.out.by (by ((repeat (first | (with_reducible exact Below.refl _ _) | (with_reducible refine below_drewN ?_ _) | (with_reducible refine Below.drew ?_) | (with_reducible refine below_al ?_ _) | (with_reducible refine below_on (by assumption) ?_) | ((with_reducible refine Below.setCell ?_ ?_ _); rotate_left; focus (first | omega | (simp; done) | (simp; omega))) | (with_reducible assumption))); done)))).mono ?_
  rintro e w1 ⟨rfl, m, rfl⟩
  go_wp2_with fail
  refine (HP.out _ _ _ (H2.out.by (by ((repeat (first | (with_reducible exact Below.refl _ _) | (with_reducible refine below_drewN ?_ _) | (with_reducible refine Below.drew ?_) | (with_reducible refine below_al ?_ _) | (with_reducible refine below_on (by assumption) ?_) | ((with_reducible refine Below.setCell ?_ ?_ _); rotate_left; focus (first | omega | (simp; done) | (simp; omega))) | (with_reducible assumption))); done))) (H4.out.by (by ((repeat (first | (with_reducible exact Below.refl _ _) | (with_reducible refine below_drewN ?_ _) | (with_reducible refine Below.drew ?_) | (with_reducible refine below_al ?_ _) | (with_reducible refine below_on (by assumption) ?_) | ((with_reducible refine Below.setCell ?_ ?_ _); rotate_left; focus (first | omega | (simp; done) | (simp; omega))) | (with_reducible assumption))); done)))).mono ?_
  rintro e w1 ⟨rfl, m', rfl⟩
  go_wp2
  go_ret
  exact ⟨rfl, (by ((repeat (first | (with_reducible exact Below.refl _ _) | (with_reducible refine below_drewN ?_ _) | (with_reducible refine Below.drew ?_) | (with_reducible refine below_al ?_ _) | (with_reducible refine below_on (by assumption) ?_) | ((with_reducible refine Below.setCell ?_ ?_ _); rotate_left; focus (first | omega | (simp; done) | (simp; omega))) | (with_reducible assumption))); done))⟩
end Go.Proofs.Ytjldkejegdljiaa
namespace Go.Proofs.Ytjldkejegdljiaa
open Go.ChangeShapes Go.WideShapes Go.ChangeAt Go.RowKit Go.Joins Go.Deep

/-- A coloring of package laws that came in, by value. -/
def IsCoV (W : World) (v : Value) (x : List Int × List Int) : Prop := CoV W v x ∧ (∀ z ∈ x.1, Fits z) ∧ ∀ z ∈ x.2, Fits z
theorem cellsCo : Try.prog.cellsOf 49 = 2 := by kernel_rfl
set_option maxRecDepth 100000 in
theorem opened_Co {H : Type} {enc : TypeId × Value → H} {W : World} {base b0 : Nat} {r : Reach} {spare : Nat → Bool} {held : Bool} {v : Value} {d : DataW H} {p : List MemPlace}
    (hv : Value.okWide Try.prog W r b0 49 v) (h : DataW.Trod enc Try.prog W base spare held 49 v d p) : ∃ x, IsCoV W v x := by
  obtain ⟨c0, c1, y0, y1, m, rfl, rfl, rfl, hy0, hy1⟩ := open_agg2 Try.underlying49 (by kernel_rfl) cellsCo hv h
  obtain ⟨xs, h1, h2⟩ := ints_of_cell hy0
  obtain ⟨ys, h3, h4⟩ := ints_of_cell hy1
  exact ⟨(xs, ys), ⟨_, _, rfl, h1, h3⟩, h2, h4⟩
end Go.Proofs.Ytjldkejegdljiaa
