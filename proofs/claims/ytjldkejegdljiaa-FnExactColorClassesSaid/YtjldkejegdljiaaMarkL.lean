/- Slices of slices of int64: compared, marked, held. -/
import Derived.Test.YtjldkejegdljiaaImplCls
import Derived.Test.YtjldkejegdljiaaSpecCls
import Derived.Test.YtjldkejegdljiaaIntB
import Derived.Test.YtjldkejegdljiaaNormB
namespace Go.Proofs.Ytjldkejegdljiaa
open Go.RowKit
set_option linter.unusedVariables false
set_option linter.unusedSimpArgs false

set_option maxRecDepth 100000 in
set_option maxHeartbeats 1000000 in
theorem eqInt64SS_refl (s1 s2 : Value) (ls : List (List Int)) (w : World) (h : LlSl w s1 ls) (h' : LlSl w s2 ls) (hn : ls.length ≤ 1000) :
    Calls Try.prog 19 #[s1, s2] w fun e w' => e = .returned (.bool true) ∧ ∃ n, w' = w.drewN n := by
  have HEQ := Lib.hid (fun s1 s2 zs w h h' => eqInt64S_refl s1 s2 zs w h h')
  obtain ⟨a, c, rfl⟩ := h.sized
  obtain ⟨a', c', rfl⟩ := h'.sized
  have H := Lib.hid h
  have H' := Lib.hid h'
  clear h h'
  go_enter Try.func19, Try.ntmps19
  go_wp2
  go_loopw [5] (fun i wr => ∃ k n : Nat, k ≤ ls.length ∧ i = .int .i64 (k : Int) ∧ wr = w.drewN n) (fun i _ => ls.length - (intOf i).toNat)
  case atStart => exact ⟨0, 0, Nat.zero_le _, rfl, rfl⟩
  case round =>
    obtain ⟨k, n, hk, rfl, rfl⟩ := hrel
    by_cases hlt : k < ls.length
    · obtain ⟨xs, hx⟩ : ∃ xs, ls[k]? = some xs := ⟨ls[k], List.getElem?_eq_getElem hlt⟩
      rcases H.out with ⟨_, _, _, e2⟩ | ⟨b, off, cap, he, _, _, h4⟩
      · rw [e2] at hx; simp at hx
      rcases H'.out with ⟨_, _, _, e2⟩ | ⟨b', off', cap', he', _, _, h4'⟩
      · rw [e2] at hx; simp at hx
      obtain ⟨rfl, rfl⟩ : a = some ⟨b, off, none⟩ ∧ c = cap := by simpa using he
      obtain ⟨rfl, rfl⟩ : a' = some ⟨b', off', none⟩ ∧ c' = cap' := by simpa using he'
      obtain ⟨r1, c1, i1⟩ := h4 k xs hx
      obtain ⟨r2, c2, i2⟩ := h4' k xs hx
      have HCALL := Lib.hid (HEQ.out r1 r2 xs (w.drewN n).drew (i1.old (fun k _ => rfl)) (i2.old (fun k _ => rfl)))
      obtain ⟨a1, d1, rfl⟩ := i1.len
      obtain ⟨a2, d2, rfl⟩ := i2.len
      have j1 : (0 : Int) ≤ (k : Int) := by omega
      have j2 : (k : Int) < (ls.length : Int) := by omega
      clear hx he he' h4 h4' i1 i2
      go_wp2_with fail
      go_region_held3 (fun w' => w'.cell? ⟨b, off + k, none⟩ = some (.slice a1 xs.length d1) ∧ w'.cell? ⟨b', off' + k, none⟩ = some (.slice a2 xs.length d2))
        (exact ⟨c1, c2⟩)
        (first | (go_at_call 20; refine HCALL.out.mono ?_; rintro e w1 ⟨rfl, n1, rfl⟩))
      go_wp2
      exact ⟨⟨k + 1, _, by omega, by go_num, by first | rfl | exact World.drewN_drewN _ _ _ | (show (w.drewN (n + 1)).drewN n1 = _; exact World.drewN_drewN _ _ _)⟩, by simp [intOf]; omega⟩
    · have j2 : ¬ (k : Int) < (ls.length : Int) := by omega
      go_wp2
      go_ret
      exact ⟨rfl, n, rfl⟩

/-- How many numbers the first k rows hold. -/
def lsum (ls : List (List Int)) (k : Nat) : Nat := (ls.take k).flatten.length
theorem lsum_step {ls : List (List Int)} {k : Nat} {xs : List Int} (h : ls[k]? = some xs) : lsum ls (k + 1) = lsum ls k + xs.length := by
  unfold lsum
  rw [take_snoc_of ls k xs h, List.flatten_append, List.length_append]
  simp
theorem lsum_mono (ls : List (List Int)) (k : Nat) : lsum ls k ≤ lsum ls ls.length := by
  unfold lsum
  rw [List.take_of_length_le (Nat.le_refl _)]
  have h : ls.flatten.length = (ls.take k).flatten.length + (ls.drop k).flatten.length := by
    rw [← List.length_append, ← List.flatten_append, List.take_append_drop]
  omega
/-- The rows' marks, from k0 on. -/
def markL (k0 : Int) (ls : List (List Int)) : List (List Int) := (List.range ls.length).map fun j => marks (k0 + (lsum ls j : Int)) (ls.getD j []).length
theorem length_markL (k0 : Int) (ls : List (List Int)) : (markL k0 ls).length = ls.length := by simp [markL]
theorem markL_get {k0 : Int} {ls : List (List Int)} {j : Nat} {xs : List Int} (h : ls[j]? = some xs) : (markL k0 ls)[j]? = some (marks (k0 + (lsum ls j : Int)) xs.length) := by
  obtain ⟨hj, e⟩ := List.getElem?_eq_some_iff.1 h
  simp [markL, hj, List.getD_eq_getElem?_getD, e]
/-- Block N holds rows, each in a block of its own. -/
def OwnLl (w : World) (lo hi : Nat) (v : Value) (ls : List (List Int)) : Prop :=
  (v = .slice none 0 0 ∧ ls = []) ∨ ∃ (N : Nat) (cs : Array Value) (vs : Nat → Value) (f : Nat → Nat), v = .slice (some ⟨N, 0, none⟩) ls.length ls.length ∧ (lo ≤ N ∧ N < hi) ∧ Blk w N cs 39 ∧ ls.length ≤ 1000 ∧
    (∀ (j : Nat) xs, ls[j]? = some xs → cs[j]? = some (vs j) ∧ OwnR w (f j) (f j + 1) (vs j) xs ∧ (lo ≤ f j ∧ f j < hi) ∧ f j ≠ N) ∧ (∀ i j, i < ls.length → j < ls.length → i ≠ j → f i ≠ f j)
theorem OwnLl.ll {w : World} {lo hi : Nat} {v : Value} {ls : List (List Int)} (h : OwnLl w lo hi v ls) : LlSl w v ls := by
  rcases h with ⟨rfl, rfl⟩ | ⟨N, cs, vs, f, rfl, _, hB, hl, hr, _⟩
  · exact .inl ⟨_, _, rfl, rfl⟩
  · refine .inr ⟨N, 0, ls.length, rfl, Nat.le_refl _, by unfold maxLen; omega, fun i xs hx => ?_⟩
    obtain ⟨c1, c2, _⟩ := hr i xs hx
    exact ⟨vs i, by rw [Nat.zero_add, hB.cell]; exact c1, c2.sl⟩
theorem OwnLl.by {w w' : World} {lo hi : Nat} {v : Value} {ls : List (List Int)} (hb : Below w.heap.size w w') (h : OwnLl w lo hi v ls) : OwnLl w' lo hi v ls := by
  rcases h with h | ⟨N, cs, vs, f, h1, h2, hB, hl, hr, hi'⟩
  · exact .inl h
  · refine .inr ⟨N, cs, vs, f, h1, h2, Blk.by hb hB, hl, fun j xs hx => ?_, hi'⟩
    obtain ⟨c1, c2, c3⟩ := hr j xs hx
    exact ⟨c1, OwnR.by hb c2, c3⟩

set_option maxRecDepth 100000 in
set_option maxHeartbeats 2000000 in
theorem markLl_any (lo hi : Nat) (v : Value) (ls : List (List Int)) (k0 : Nat) (w : World) (h : OwnLl w lo hi v ls) (hn : ∀ xs ∈ ls, xs.length ≤ 1000) (hk : 0 < k0) (hk' : k0 + lsum ls ls.length ≤ 1000000000) :
    Calls Try.prog 22 #[v, .int .i64 (k0 : Int)] w fun e w' => e = .returned (.int .i64 ((k0 + lsum ls ls.length : Nat) : Int)) ∧ OwnLl w' lo hi v (markL k0 ls) ∧ Within lo hi w w' := by
  rcases h with ⟨rfl, rfl⟩ | ⟨N, cs, vs, f, rfl, hN, hB, hl, hr, hinj⟩
  · go_enter Try.func22, Try.ntmps22
    go_wp2
    go_loopw [1, 5] (fun v i wr => i = .int .i64 0 ∧ v = .int .i64 (k0 : Int) ∧ wr = w) (fun _ _ _ => 0)
    case atStart => exact ⟨rfl, rfl, rfl⟩
    case round =>
      obtain ⟨rfl, rfl, rfl⟩ := hrel
      go_wp2
      go_ret
      exact ⟨ret_i64 (by simp [lsum]), .inl ⟨rfl, rfl⟩, Within.refl _ _ _⟩
  · have HR := Lib.hid hr
    have HINJ := Lib.hid hinj
    have HNN := Lib.hid hn
    have HST := Lib.hid (fun k xs h => @lsum_step ls k xs h)
    have HMO := Lib.hid (lsum_mono ls)
    have HML := Lib.hid (fun j xs h => @markL_get (k0 : Int) ls j xs h)
    have HLM := Lib.hid (length_markL (k0 : Int) ls)
    have HMR := Lib.hid (fun lo hi sv zs k w h hn hk hk' => markR_any lo hi sv zs k w h hn hk hk')
    obtain ⟨ML, hML⟩ : ∃ M, markL (k0 : Int) ls = M := ⟨_, rfl⟩
    rw [hML] at HML HLM ⊢
    have h00 : lsum ls 0 = 0 := by simp [lsum]
    obtain ⟨S, hS⟩ : ∃ S, lsum ls = S := ⟨_, rfl⟩
    rw [hS] at HST HMO HML hk' h00 ⊢
    have HS0 := Lib.hid h00
    clear hr hinj hn hML h00 hS
    go_enter Try.func22, Try.ntmps22
    go_wp2
    go_loopw [1, 5] (fun s i wr => ∃ k : Nat, k ≤ ls.length ∧ i = .int .i64 (k : Int) ∧ s = .int .i64 ((k0 + S k : Nat) : Int) ∧ Blk wr N cs 39 ∧ Hid (∀ (j : Nat) xs, ls[j]? = some xs → (j < k → OwnR wr (f j) (f j + 1) (vs j) (marks ((k0 : Int) + (S j : Int)) xs.length)) ∧ (k ≤ j → OwnR wr (f j) (f j + 1) (vs j) xs)) ∧ Within lo hi w wr) (fun _ i _ => ls.length - (intOf i).toNat)
    case atStart => exact ⟨0, Nat.zero_le _, rfl, by rw [HS0.out]; rfl, hB, Lib.hid (fun j xs hx => ⟨fun h => by omega, fun _ => (HR.out j xs hx).2.1⟩), Within.refl _ _ _⟩
    case round =>
      clear hB
      obtain ⟨k, hkl, rfl, rfl, hB, HO, hW⟩ := hrel
      by_cases hlt : k < ls.length
      · obtain ⟨xs, hx⟩ : ∃ xs, ls[k]? = some xs := ⟨ls[k], List.getElem?_eq_getElem hlt⟩
        obtain ⟨c1, _, c3, c4⟩ := HR.out k xs hx
        have hO := (HO.out k xs hx).2 (Nat.le_refl _)
        have hxl := HNN.out xs (List.mem_of_getElem? hx)
        have hst := HST.out k xs hx
        have hmo := HMO.out k
        have hmk := HMR.out (f k) (f k + 1) (vs k) xs ((k0 : Int) + (S k : Int)) wr hO (by omega) (by omega) (by omega)
        rw [show (k0 : Int) + (S k : Int) = ((k0 + S k : Nat) : Int) by omega] at hmk
        have HMK := Lib.hid hmk
        have qN : wr.cell? ⟨N, k, none⟩ = some (vs k) := (hB.cell _).trans c1
        have HX := Lib.hid hx
        have i1 : (0 : Int) ≤ (k : Int) := by omega
        have i2 : (k : Int) < (ls.length : Int) := by omega
        have HSTK := Lib.hid hst
        clear hx c1 hO hmk hst
        go_wp2_with fail
        refine HMK.out.mono ?_
        rintro e w1 ⟨rfl, hO1, hW1⟩
        have HO1 := Lib.hid hO1
        have kN1 := hW1.blk hB (by omega)
        have HW1 := Lib.hid hW1
        clear hO1 hW1 qN
        go_wp2
        refine ⟨⟨k + 1, by omega, by go_num, ?_, kN1, Lib.hid (fun j ys hy => ⟨fun hj => ?_, fun hj => ?_⟩), hW.on (HW1.out.sub (by omega) (by omega))⟩, by simp [intOf]; omega⟩
        · rw [HSTK.out]
          congr 1
          omega
        · by_cases e : j = k
          · subst e
            have : ys = xs := by
              have h1 := HX.out
              rw [hy] at h1
              exact Option.some.inj h1
            subst this
            have := HO1.out
            rwa [show ((k0 + S j : Nat) : Int) = (k0 : Int) + (S j : Int) by omega] at this
          · have hjl := (List.getElem?_eq_some_iff.1 hy).1
            have hne := HINJ.out j k hjl hlt e
            exact ((HO.out j ys hy).1 (by omega)).past HW1.out (by omega)
        · have hjl := (List.getElem?_eq_some_iff.1 hy).1
          have hne := HINJ.out j k hjl hlt (by omega)
          exact ((HO.out j ys hy).2 (by omega)).past HW1.out (by omega)
      · obtain rfl : k = ls.length := by omega
        have i2 : ¬ (ls.length : Int) < (ls.length : Int) := by omega
        go_wp2
        go_ret
        refine ⟨rfl, .inr ⟨N, cs, vs, f, by rw [HLM.out]; try rfl, hN, hB, by rw [HLM.out]; exact hl, fun j ys hy => ?_, fun i j hi hj => HINJ.out i j (by rw [HLM.out] at hi; exact hi) (by rw [HLM.out] at hj; exact hj)⟩, hW⟩
        have hjl : j < ls.length := by rw [← HLM.out]; exact (List.getElem?_eq_some_iff.1 hy).1
        obtain ⟨xs, hx⟩ : ∃ xs, ls[j]? = some xs := ⟨ls[j], List.getElem?_eq_getElem hjl⟩
        rw [HML.out j xs hx] at hy
        have := Option.some.inj hy
        subst this
        obtain ⟨c1, _, c3⟩ := HR.out j xs hx
        exact ⟨c1, (HO.out j xs hx).1 hjl, c3⟩
end Go.Proofs.Ytjldkejegdljiaa
