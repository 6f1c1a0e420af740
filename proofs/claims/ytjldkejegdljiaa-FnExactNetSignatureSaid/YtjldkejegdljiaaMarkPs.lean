/- markPortS and heldPortS. -/
import Derived.Test.YtjldkejegdljiaaMarkDs
import Derived.Test.YtjldkejegdljiaaMText
namespace Go.Proofs.Ytjldkejegdljiaa
open Go.RowKit
set_option linter.unusedVariables false
set_option linter.unusedSimpArgs false

def markPs (k n : Nat) : List Pt := (List.range n).map fun i => ⟨mtxt (k + 2 * i), ((k + 2 * i + 1 : Nat) : Int)⟩
theorem length_markPs (k n : Nat) : (markPs k n).length = n := by simp [markPs]
theorem markPs_get (k n i : Nat) (h : i < n) : (markPs k n)[i]? = some ⟨mtxt (k + 2 * i), ((k + 2 * i + 1 : Nat) : Int)⟩ := by simp [markPs, h]

set_option maxRecDepth 100000 in
set_option maxHeartbeats 4000000 in
theorem markPortS_any (lo hi : Nat) (sv : Value) (ps : List Pt) (k0 : Nat) (w : World) (h : OwnPs w lo hi sv ps) (hlw : hi ≤ w.heap.size) (hk : 0 < k0) (hk' : k0 + 2 * ps.length ≤ 1000000000000) :
    Calls Try.prog 42 #[sv, .int .i64 (k0 : Int)] w fun e w' => e = .returned (.int .i64 ((k0 + 2 * ps.length : Nat) : Int)) ∧ OwnPs w' lo hi sv (markPs k0 ps.length) ∧ Within lo hi w w' := by
  rcases h with ⟨a, c, rfl, rfl⟩ | ⟨g, cap, cs0, rfl, hg, hcap, hmax, hB0, hel⟩
  · go_enter Try.func42, Try.ntmps42
    go_wp2
    go_loopw [1, 5] (fun v i wr => i = .int .i64 0 ∧ v = .int .i64 (k0 : Int) ∧ wr = w) (fun _ _ _ => 0)
    case atStart => exact ⟨rfl, rfl, rfl⟩
    case round =>
      obtain ⟨rfl, rfl, rfl⟩ := hrel
      go_wp2
      go_ret
      exact ⟨ret_i64 (by simp), .inl ⟨_, _, rfl, by simp [markPs]⟩, Within.refl _ _ _⟩
  · unfold maxLen at hmax
    have HEL := Lib.hid hel
    clear hel
    go_enter Try.func42, Try.ntmps42
    go_wp2
    go_loopw [1, 5] (fun v i wr => ∃ k : Nat, k ≤ ps.length ∧ i = .int .i64 k ∧ v = .int .i64 ((k0 + 2 * k : Nat) : Int) ∧
      (∃ cs : Array Value, Blk wr g cs 96 ∧ cs.size = cs0.size ∧ Hid (∀ (j : Nat), j < k → Cs2 cs j (.string (mtxt (k0 + 2 * j))) (.int .i64 ((k0 + 2 * j + 1 : Nat) : Int)))) ∧ Within lo hi w wr) (fun _ i _ => ps.length - (intOf i).toNat)
    case atStart => exact ⟨0, Nat.zero_le _, rfl, by simp, ⟨cs0, hB0, rfl, Lib.hid (fun j h => by omega)⟩, Within.refl _ _ _⟩
    case round =>
      obtain ⟨k, hkl, rfl, rfl, ⟨cs, hB, hsz, HO⟩, ho⟩ := hrel
      by_cases hlt : k < ps.length
      · obtain ⟨x, hx⟩ : ∃ x, ps[k]? = some x := ⟨ps[k], List.getElem?_eq_getElem hlt⟩
        obtain ⟨c0, c1⟩ := HEL.out k x hx
        have hz : k * 2 + 1 < cs.size := by rw [hsz]; exact (Array.getElem?_eq_some_iff.1 c1).1
        have HMT := Lib.hid (fun w => markText_any (k0 + 2 * k) w (by omega) (by omega))
        have HSZ := Lib.hid hsz
        obtain ⟨s, hs⟩ : ∃ s : Nat, k0 + 2 * k = s := ⟨_, rfl⟩
        rw [hs] at HMT ⊢
        have HS := Lib.hid hs
        have hs1 : s + 2 ≤ 1000000000000 := by omega
        obtain ⟨u0_, d0⟩ : ∃ u, cs[k * 2]? = some u := ⟨_, Array.getElem?_eq_getElem (by omega)⟩
        obtain ⟨u1_, d1⟩ : ∃ u, cs[k * 2 + 1]? = some u := ⟨_, Array.getElem?_eq_getElem (by omega)⟩
        have i1 : (0 : Int) ≤ (k : Int) := by omega
        have i2 : (k : Int) < (ps.length : Int) := by omega
        have hsl := ho.size
        clear hx hs hsz c0 c1
        generalize hmt : mtxt s = mt at *
        have HMM := Lib.hid hmt
        clear hmt
        go_wp2_with fail
        refine (HMT.out _).mono ?_
        rintro e w1 ⟨rfl, hb1⟩
        have hb2 := Blk.by hb1 hB
        have e2 := hb2.cell
        have f2 := hb2.free
        have ho1 : Within lo hi w w1 := ho.on ⟨hb1.os, hb1.tape, hb1.output, hb1.size, fun k hk _ => hb1.block k hk⟩
        clear hb1 hB
        go_wp2
        refine ⟨⟨k + 1, by omega, by go_num, by have := HS.out; congr 1; omega, ⟨put2 cs k (.string mt) (.int .i64 ((s : Int) + 1)), (hb2.set _ _).set _ _, by rw [size_put2]; exact HSZ.out, Lib.hid (fun j hj => ?_)⟩, (ho1.set g _ _ hg.1 hg.2).set g _ _ hg.1 hg.2⟩, by simp [intOf]; omega⟩
        by_cases hjk : j = k
        · subst hjk
          rw [HS.out, HMM.out]
          exact put2_same cs j _ _ (by omega)
        · exact put2_other cs k j _ _ _ _ hjk (HO.out j (by omega))
      · obtain rfl : k = ps.length := by omega
        go_wp2
        go_ret
        refine ⟨rfl, .inr ⟨g, cap, cs, by rw [length_markPs], hg, by rw [length_markPs]; exact hcap, by unfold maxLen; exact hmax, hB, fun i y hy => ?_⟩, ho⟩
        have hi : i < ps.length := by have := (List.getElem?_eq_some_iff.1 hy).1; rwa [length_markPs] at this
        rw [markPs_get k0 _ i hi] at hy
        cases hy
        exact HO.out i hi

set_option maxRecDepth 100000 in
set_option maxHeartbeats 4000000 in
theorem heldPortS_any (sv : Value) (n k0 : Nat) (w : World) (h : PtSl w sv (markPs k0 n)) (hk : 0 < k0) (hk' : k0 + 2 * n ≤ 1000000000000) :
    Calls Try.prog 44 #[sv, .int .i64 (k0 : Int)] w fun e w' => e = .returned (.int .i64 ((k0 + 2 * n : Nat) : Int)) ∧ Below w.heap.size w w' := by
  have hlm := length_markPs k0 n
  have HH := Lib.hid h
  have hdl : (markPs k0 n).length ≤ 9223372036854775807 := by
    rcases h with ⟨_, _, _, h2⟩ | ⟨b, off, cap, h1, h2, h3, _⟩
    · rw [h2]; simp
    · unfold maxLen at h3; omega
  obtain ⟨a, c, rfl⟩ := h.sized
  rw [hlm] at hdl HH ⊢
  clear h hlm
  go_enter Try.func44, Try.ntmps44
  go_wp2
  go_loopw [1, 5] (fun v i wr => ∃ k : Nat, k ≤ n ∧ i = .int .i64 k ∧ v = .int .i64 ((k0 + 2 * k : Nat) : Int) ∧ Below w.heap.size w wr) (fun _ i _ => n - (intOf i).toNat)
  case atStart => exact ⟨0, Nat.zero_le _, rfl, by simp, (by ((repeat (first | (with_reducible exact Below.refl _ _) | (with_reducible refine below_drewN ?_ _) | (with_reducible refine Below.drew ?_) | (with_reducible refine below_al ?_ _) | (with_reducible refine below_on (by assumption) ?_) | ((with_reducible refine Below.setCell ?_ ?_ _); rotate_left; focus (first | omega | (simp; done) | (simp; omega))) | (with_reducible assumption))); done))⟩
  case round =>
    obtain ⟨k, hkl, rfl, rfl, hb⟩ := hrel
    by_cases hlt : k < n
    · have hm := markPs_get k0 n k hlt
      have HHS := HH.out
      rcases HHS with ⟨_, _, e1, e2⟩ | ⟨b, off, cap, he, h2, h3, h4⟩
      · rw [e2] at hm; simp at hm
      obtain ⟨d1, d2⟩ := (h4 k _ hm).by hb
      obtain ⟨rfl, rfl⟩ : a = some ⟨b, off, none⟩ ∧ c = cap := by simpa [length_markPs] using he
      dsimp only at d1 d2
      have HMT := Lib.hid (fun w => markText_any (k0 + 2 * k) w (by omega) (by omega))
      obtain ⟨s, hs⟩ : ∃ s : Nat, k0 + 2 * k = s := ⟨_, rfl⟩
      rw [hs] at HMT d1 d2 ⊢
      have HS := Lib.hid hs
      have hs1 : s + 2 ≤ 1000000000000 := by omega
      generalize mtxt s = mt at *
      have i1 : (0 : Int) ≤ (k : Int) := by omega
      have i2 : (k : Int) < (n : Int) := by omega
      have d2' := d2
      simp only [Int.natCast_add, Int.natCast_one] at d2'
      clear hm he h4 hs d2
      go_wp2_with fail
      go_region_held3 (fun w' => (w'.cell? ⟨b, off + k * 2, none⟩ = some (.string mt) ∧ w'.cell? ⟨b, off + k * 2 + 1, none⟩ = some (.int .i64 ((s : Int) + 1))) ∧ Below w.heap.size w w')
        (first | exact ⟨⟨d1, d2'⟩, hb.drew⟩ | exact ⟨⟨cell_by' hb1 d1, cell_by' hb1 d2'⟩, below_on hb1 hb.drew⟩)
        (first | (go_at_call 83; refine (HMT.out _).mono ?_; rintro e w1 ⟨rfl, hb1⟩))
      go_wp2
      exact ⟨⟨k + 1, by omega, by go_num, by have := HS.out; congr 1; omega, below_on hb1 hb.drew⟩, by simp [intOf]; omega⟩
    · obtain rfl : k = n := by omega
      go_wp2
      go_ret
      exact ⟨rfl, hb⟩
end Go.Proofs.Ytjldkejegdljiaa
