/- ColorClasses, both, as the exact statement wants them; held slices of slices. -/
import Derived.Test.YtjldkejegdljiaaMarkL
namespace Go.Proofs.Ytjldkejegdljiaa
open Go.RowKit
set_option linter.unusedVariables false
set_option linter.unusedSimpArgs false

theorem eqLl_refl (v1 v2 : Value) (x : List (List Int)) (hn : x.length ≤ 1000) (w : World) (h1 : LlSl w v1 x) (h2 : LlSl w v2 x) :
    Calls Try.prog 19 #[v1, v2] w fun e w' => e = .returned (.bool true) ∧ Below w.heap.size w w' := by
  refine (eqInt64SS_refl v1 v2 x w h1 h2 hn).mono ?_
  rintro e w' ⟨rfl, n, rfl⟩
  exact ⟨rfl, below_of_drewN _ n⟩
theorem OwnLl.past {w w' : World} {lo hi lo' hi' : Nat} {v : Value} {ls : List (List Int)} (hb : Within lo' hi' w w') (h : OwnLl w lo hi v ls) (hd : hi ≤ lo' ∨ hi' ≤ lo) : OwnLl w' lo hi v ls := by
  rcases h with h | ⟨N, cs, vs, f, h1, h2, hB, hl, hr, hi'⟩
  · exact .inl h
  · refine .inr ⟨N, cs, vs, f, h1, h2, hb.blk hB (by omega), hl, fun j xs hx => ?_, hi'⟩
    obtain ⟨c1, c2, c3, c4⟩ := hr j xs hx
    exact ⟨c1, c2.past hb (by omega), c3, c4⟩
/-- What the reference hands back: to be read. -/
def ReadL (w : World) (lo hi : Nat) (v : Value) (ls : List (List Int)) : Prop := BldL w lo hi v ls
theorem ReadL.by {w w' : World} {lo hi : Nat} {v : Value} {ls : List (List Int)} (hb : Below w.heap.size w w') (h : ReadL w lo hi v ls) : ReadL w' lo hi v ls := BldL.by hb h
theorem ReadL.past {w w' : World} {lo hi lo' hi' : Nat} {v : Value} {ls : List (List Int)} (hb : Within lo' hi' w w') (h : ReadL w lo hi v ls) (hd : hi ≤ lo' ∨ hi' ≤ lo) : ReadL w' lo hi v ls :=
  BldL.same h hb.size (fun k h1 h2 => hb.block k (by have := h.1; omega) (by omega))
theorem ReadL.ll {w : World} {lo hi : Nat} {v : Value} {ls : List (List Int)} (h : ReadL w lo hi v ls) : LlSl w v ls := (BldL.ll h).1

set_option maxRecDepth 100000 in
set_option maxHeartbeats 2000000 in
theorem heldLl_any (v : Value) (ls : List (List Int)) (k0 : Nat) (w : World) (h : LlSl w v (markL k0 ls)) (hn : ∀ xs ∈ ls, xs.length ≤ 1000) (hl : ls.length ≤ 1000) (hk : 0 < k0) (hk' : k0 + lsum ls ls.length ≤ 1000000000) :
    Calls Try.prog 23 #[v, .int .i64 (k0 : Int)] w fun e w' => e = .returned (.int .i64 ((k0 + lsum ls ls.length : Nat) : Int)) ∧ Below w.heap.size w w' := by
  have H := Lib.hid h
  obtain ⟨a, c, rfl⟩ := h.sized
  rw [length_markL] at H ⊢
  have HNN := Lib.hid hn
  have HST := Lib.hid (fun k xs h => @lsum_step ls k xs h)
  have HMO := Lib.hid (lsum_mono ls)
  have HML := Lib.hid (fun j xs h => @markL_get (k0 : Int) ls j xs h)
  have HLM := Lib.hid (length_markL (k0 : Int) ls)
  have HH := Lib.hid (fun sv n k w h hn hk hk' => heldInt64S_any sv n k w h hn hk hk')
  obtain ⟨ML, hML⟩ : ∃ M, markL (k0 : Int) ls = M := ⟨_, rfl⟩
  rw [hML] at HML HLM H
  have h00 : lsum ls 0 = 0 := by simp [lsum]
  obtain ⟨S, hS⟩ : ∃ S, lsum ls = S := ⟨_, rfl⟩
  rw [hS] at HST HMO HML hk' h00 ⊢
  have HS0 := Lib.hid h00
  clear h hn hML h00 hS
  go_enter Try.func23, Try.ntmps23
  go_wp2
  go_loopw [1, 5] (fun s i wr => ∃ k n : Nat, k ≤ ls.length ∧ i = .int .i64 (k : Int) ∧ s = .int .i64 ((k0 + S k : Nat) : Int) ∧ wr = w.drewN n) (fun _ i _ => ls.length - (intOf i).toNat)
  case atStart => exact ⟨0, 0, Nat.zero_le _, rfl, by rw [HS0.out]; rfl, rfl⟩
  case round =>
    obtain ⟨k, n, hkl, rfl, rfl, rfl⟩ := hrel
    by_cases hlt : k < ls.length
    · obtain ⟨xs, hx⟩ : ∃ xs, ls[k]? = some xs := ⟨ls[k], List.getElem?_eq_getElem hlt⟩
      have hm := HML.out k xs hx
      rcases H.out with ⟨_, _, _, e2⟩ | ⟨b, off, cap, he, _, _, h4⟩
      · rw [e2] at hm; simp at hm
      obtain ⟨rfl, rfl⟩ : a = some ⟨b, off, none⟩ ∧ c = cap := by
        have hlm := HLM.out
        simpa [hlm] using he
      obtain ⟨r1, c1, i1⟩ := h4 k _ hm
      have hxl := HNN.out xs (List.mem_of_getElem? hx)
      have hst := HST.out k xs hx
      have hmo := HMO.out k
      have hh := HH.out r1 xs.length ((k0 : Int) + (S k : Int)) (w.drewN n) (i1.old (fun k _ => rfl)) (by omega) (by omega) (by omega)
      rw [show (k0 : Int) + (S k : Int) = ((k0 + S k : Nat) : Int) by omega] at hh
      have HHX := Lib.hid hh
      obtain ⟨a1, d1, rfl⟩ := i1.len
      rw [length_marks] at HHX c1
      have HSTK := Lib.hid hst
      have j1 : (0 : Int) ≤ (k : Int) := by omega
      have j2 : (k : Int) < (ls.length : Int) := by omega
      clear hx hm he h4 i1 hh hst
      go_wp2_with fail
      refine HHX.out.mono ?_
      rintro e w1 ⟨rfl, n1, rfl⟩
      have j3 : ¬ (((k0 + S k : Nat) : Int) + (xs.length : Int) < 0) := by omega
      go_wp2
      refine ⟨⟨k + 1, _, by omega, by go_num, ?_, by first | rfl | exact World.drewN_drewN _ _ _⟩, by simp [intOf]; omega⟩
      rw [HSTK.out]
      congr 1
      omega
    · obtain rfl : k = ls.length := by omega
      have j2 : ¬ (ls.length : Int) < (ls.length : Int) := by omega
      go_wp2
      go_ret
      exact ⟨rfl, below_of_drewN _ n⟩

theorem clsTo_pos {zs : List Int} {x : Int} (h : x ∈ zs) : 0 < (clsTo zs x zs.length).length := by
  obtain ⟨i, hi, e⟩ := List.mem_iff_getElem.1 h
  refine List.length_pos_of_mem (a := (i : Int)) ?_
  unfold clsTo
  simp only [List.mem_map, List.mem_filter, List.mem_range]
  refine ⟨i, ⟨hi, ?_⟩, rfl⟩
  rw [List.getElem?_eq_getElem hi]
  simpa using e
theorem clsL_get {zs : List Int} {j : Nat} {xs : List Int} (h : (clsL zs)[j]? = some xs) : ∃ x, (colA zs)[j]? = some x ∧ x ∈ zs ∧ xs = clsTo zs x zs.length := by
  unfold clsL at h
  rw [List.getElem?_map, Option.map_eq_some_iff] at h
  obtain ⟨x, hx, rfl⟩ := h
  exact ⟨x, hx, mem_colA.1 (List.mem_of_getElem? hx), rfl⟩
theorem length_clsL (zs : List Int) : (clsL zs).length = (colA zs).length := by simp [clsL]
theorem lsum_le {ls : List (List Int)} (h : ∀ xs ∈ ls, xs.length ≤ 24) : ∀ k, lsum ls k ≤ k * 24
  | 0 => by simp [lsum]
  | k + 1 => by
    have ih := lsum_le h k
    cases e : ls[k]? with
    | none =>
      have hk : ls.length ≤ k := by simpa using e
      unfold lsum at ih ⊢
      rw [List.take_of_length_le (by omega)] at ih ⊢
      omega
    | some xs =>
      rw [lsum_step e]
      have := h xs (List.mem_of_getElem? e)
      omega
theorem clsS_bounds (zs : List Int) : (∀ xs ∈ clsS zs, xs.length ≤ 1000) ∧ lsum (clsS zs) (clsS zs).length ≤ 4000000 ∧ (clsS zs).length ≤ 1000 := by
  unfold clsS
  split
  · rename_i h24
    have hA : (colA zs).length ≤ 24 := by
      rw [length_colA]
      have := difI_le zs
      omega
    have hx : ∀ xs ∈ clsL zs, xs.length ≤ 24 := fun xs hxs => by
      obtain ⟨j, hj, e⟩ := List.mem_iff_getElem.1 hxs
      obtain ⟨x, _, _, rfl⟩ := clsL_get (j := j) (xs := xs) (by rw [List.getElem?_eq_getElem hj, e])
      have := clsTo_len zs x zs.length
      omega
    have h1 := lsum_le hx (clsL zs).length
    rw [length_clsL] at h1 ⊢
    exact ⟨fun xs h => by have := hx xs h; omega, by omega, by omega⟩
  · simp [lsum]
theorem BldI.blk' {w : World} {lo hi : Nat} {v : Value} {zs : List Int} (h : BldI w lo hi v zs) (h0 : 0 < zs.length) :
    ∃ G cap cs, v = .slice (some ⟨G, 0, none⟩) zs.length cap ∧ (lo ≤ G ∧ G < hi) ∧ Blk w G cs 2 ∧ OwnR w G (G + 1) v zs := by
  obtain ⟨hs, ⟨hlen, r⟩, h3⟩ := h
  rcases r with ⟨_, r1⟩ | ⟨g, cap', cur, rfl, e2, e3, e4, e5, e6, e7⟩
  · omega
  · refine ⟨g, cap', cur, rfl, h3 g rfl, e3, .inr ⟨g, cap', cur, rfl, Nat.le_refl _, Nat.lt_succ_self _, e4, e5, e3, fun i z hz => ?_⟩⟩
    have hi : i < zs.length := (List.getElem?_eq_some_iff.1 hz).1
    have : (icells zs)[i]? = some (.int .i64 z) := by simp [icells, hz]
    rw [← e7, List.getElem?_take_of_lt (by omega)] at this
    simpa using this
theorem ClsV.own {w : World} {lo : Nat} {v : Value} {zs : List Int} (h : ClsV w lo v zs) : OwnLl w lo w.heap.size v (clsS zs) := by
  rcases h with ⟨h1, rfl⟩ | ⟨h1, N, rfl, hN, cs, vs, n1, n2, n3, n4⟩
  · refine .inl ⟨rfl, ?_⟩
    unfold clsS
    rw [if_neg (by omega)]
  · have hc : clsS zs = clsL zs := by unfold clsS; rw [if_pos h1]
    rw [hc]
    have hl := length_clsL zs
    have hA : (colA zs).length ≤ 24 := by
      rw [length_colA]
      have := difI_le zs
      omega
    have hrow : ∀ (j : Nat) xs, (clsL zs)[j]? = some xs → j < (colA zs).length ∧ cs[j]? = some (vs j) ∧ ∃ G, (vs j).ownBlock = some G ∧ N + 1 ≤ G ∧ G < w.heap.size ∧ OwnR w G (G + 1) (vs j) xs := fun j xs hx => by
      obtain ⟨x, hx1, hx2, rfl⟩ := clsL_get hx
      have hj : j < (colA zs).length := (List.getElem?_eq_some_iff.1 hx1).1
      obtain ⟨m1, m2⟩ := n3 j hj
      have hd : (colA zs).getD j 0 = x := by simp [List.getD_eq_getElem?_getD, hx1]
      (try dsimp only at m2)
      rw [hd] at m2
      obtain ⟨G, cap, cur, e1, e2, e3, e4⟩ := m2.blk' (clsTo_pos hx2)
      exact ⟨hj, m1, G, by rw [e1]; rfl, e2.1, e2.2, e4⟩
    refine .inr ⟨N, cs, vs, fun j => ((vs j).ownBlock).getD 0, by rw [hl], ⟨hN, n1.lt⟩, n1, by rw [hl]; omega, fun j xs hx => ?_, fun i j hi hj hij e => ?_⟩
    · obtain ⟨hj, m1, G, g1, g2, g3, g4⟩ := hrow j xs hx
      simp only [g1, Option.getD_some]
      exact ⟨m1, g4, ⟨by omega, g3⟩, by omega⟩
    · obtain ⟨hi', _, G, g1, _⟩ := hrow i _ (List.getElem?_eq_getElem hi)
      obtain ⟨hj', _, G', g1', _⟩ := hrow j _ (List.getElem?_eq_getElem hj)
      simp only [g1, g1', Option.getD_some] at e
      subst e
      exact n4 i j hi' hj' hij G g1 g1'
theorem implClasses_any (sv : Value) (zs : List Int) (w : World) (h : IntSl w sv zs) (hl : zs.length ≤ 1048576) :
    Calls Try.prog 18 #[sv] w fun e w' => ∃ v, e = .returned v ∧ OwnLl w' w.heap.size w'.heap.size v (clsS zs) ∧ Below w.heap.size w w' := by
  refine (implCls_any sv zs w h hl).mono ?_
  rintro e w' ⟨v, rfl, hv, hb⟩
  exact ⟨v, rfl, hv.own, hb⟩
theorem specClasses_any (sv : Value) (zs : List Int) (w : World) (h : IntSl w sv zs) (hl : zs.length ≤ 1048576) :
    Calls Try.prog 16 #[sv] w fun e w' => ∃ v, e = .returned v ∧ ReadL w' w.heap.size w'.heap.size v (clsS zs) ∧ Below w.heap.size w w' :=
  specCls_any sv zs w h hl
end Go.Proofs.Ytjldkejegdljiaa
