/- The number of different numbers of a list: the plain part. -/
import Derived.Test.YtjldkejegdljiaaRank0
import Derived.Test.YtjldkejegdljiaaOrdB
import Derived.Test.YtjldkejegdljiaaCompI
import Derived.Test.YtjldkejegdljiaaOrdI
import Derived.Test.YtjldkejegdljiaaPairColoring
import Derived.Deep.RegionHeld3
namespace Go.Proofs.Ytjldkejegdljiaa
open Go.RowKit
set_option linter.unusedVariables false
set_option linter.unusedSimpArgs false

/-- The numbers that stand first among the first k. -/
def fstTo (zs : List Int) : Nat → List Int
  | 0 => []
  | k + 1 => match zs[k]? with
    | none => fstTo zs k
    | some z => if z ∈ zs.take k then fstTo zs k else fstTo zs k ++ [z]
/-- How many different numbers there are. -/
def difI (zs : List Int) : Nat := (fstTo zs zs.length).length
theorem fstTo_old {zs : List Int} {k : Nat} {z : Int} (h : zs[k]? = some z) (hm : z ∈ zs.take k) : fstTo zs (k + 1) = fstTo zs k := by
  show (match zs[k]? with | none => _ | some z => _) = _
  rw [h]
  simp only [if_pos hm]
theorem fstTo_new {zs : List Int} {k : Nat} {z : Int} (h : zs[k]? = some z) (hm : ¬ z ∈ zs.take k) : fstTo zs (k + 1) = fstTo zs k ++ [z] := by
  show (match zs[k]? with | none => _ | some z => _) = _
  rw [h]
  simp only [if_neg hm]
theorem mem_fstTo {zs : List Int} {x : Int} : ∀ k, k ≤ zs.length → (x ∈ fstTo zs k ↔ x ∈ zs.take k)
  | 0, _ => by simp [fstTo]
  | k + 1, hk => by
    obtain ⟨z, hz⟩ : ∃ z, zs[k]? = some z := ⟨zs[k], List.getElem?_eq_getElem (by omega)⟩
    have ih := mem_fstTo (zs := zs) (x := x) k (by omega)
    rw [take_snoc_of zs k z hz, List.mem_append, List.mem_singleton]
    by_cases hm : z ∈ zs.take k
    · rw [fstTo_old hz hm, ih]
      exact ⟨.inl, fun h => h.elim id (fun e => e ▸ hm)⟩
    · rw [fstTo_new hz hm, List.mem_append, List.mem_singleton, ih]
theorem nodup_fstTo {zs : List Int} : ∀ k, k ≤ zs.length → (fstTo zs k).Nodup
  | 0, _ => by simp [fstTo]
  | k + 1, hk => by
    obtain ⟨z, hz⟩ : ∃ z, zs[k]? = some z := ⟨zs[k], List.getElem?_eq_getElem (by omega)⟩
    have ih := nodup_fstTo (zs := zs) k (by omega)
    by_cases hm : z ∈ zs.take k
    · rw [fstTo_old hz hm]; exact ih
    · rw [fstTo_new hz hm, List.nodup_append]
      refine ⟨ih, by simp, fun a ha b hb => ?_⟩
      simp at hb
      subst hb
      intro e
      subst e
      exact hm ((mem_fstTo k (by omega)).1 ha)
theorem length_fstTo (zs : List Int) : ∀ k, (fstTo zs k).length ≤ k
  | 0 => by simp [fstTo]
  | k + 1 => by
    have ih := length_fstTo zs k
    show (match zs[k]? with | none => _ | some z => _ : List Int).length ≤ _
    split
    · omega
    · split
      · omega
      · simp; omega
theorem difI_le (zs : List Int) : difI zs ≤ zs.length := length_fstTo zs _
theorem ddpA_lt (p : Int) (l : List Int) (h : (p :: l).Pairwise (fun a b => a ≤ b)) : (p :: ddpA p l).Pairwise (fun a b => a < b) := by
  induction l generalizing p with
  | nil => simp [ddpA]
  | cons b l ih =>
    rw [List.pairwise_cons] at h
    have hb := ih b h.2
    unfold ddpA
    by_cases e : b = p
    · subst e; rw [if_pos rfl]; exact hb
    · rw [if_neg e, List.pairwise_cons]
      refine ⟨fun a ha => ?_, hb⟩
      have hpb : p ≤ b := h.1 b (by simp)
      rcases List.mem_cons.1 ha with rfl | ha
      · omega
      · have := (List.pairwise_cons.1 hb).1 a ha
        omega
theorem ddp_lt {l : List Int} (h : l.Pairwise (fun a b => a ≤ b)) : (ddp l).Pairwise (fun a b => a < b) := by
  cases l with
  | nil => simp [ddp]
  | cons a l => exact ddpA_lt a l h
theorem srt_le (zs : List Int) : (srt zs).Pairwise (fun a b => a ≤ b) := (srt_pairwise zs).imp (fun h => by simpa using h)
/-- The program's number is the reference's. -/
theorem difI_srt (zs : List Int) : (ddp (srt zs)).length = difI zs := by
  refine (perm_of_mem _ _ ?_ (nodup_fstTo zs.length (Nat.le_refl _)) (fun z => ?_)).length_eq
  · exact (ddp_lt (srt_le zs)).imp (fun h => by omega)
  · rw [mem_ddp, mem_fstTo _ (Nat.le_refl _), List.take_length]
    exact (srt_perm zs).mem_iff
end Go.Proofs.Ytjldkejegdljiaa

/- How many different numbers: the reference's and the program's. -/
namespace Go.Proofs.Ytjldkejegdljiaa
open Go.RowKit
set_option linter.unusedVariables false
set_option linter.unusedSimpArgs false

set_option maxRecDepth 100000 in
set_option maxHeartbeats 2000000 in
theorem l29Different_any (sv : Value) (zs : List Int) (w : World) (h : IntSl w sv zs) (hl : zs.length ≤ 1000000) :
    Calls Try.prog 56 #[sv] w fun e w' => e = .returned (.int .i64 (difI zs)) ∧ ∃ n, w' = w.drewN n := by
  have H := Lib.hid h
  have HLE := Lib.hid (fun k => length_fstTo zs k)
  have HOLD := Lib.hid (fun k z => @fstTo_old zs k z)
  have HNEW := Lib.hid (fun k z => @fstTo_new zs k z)
  have HTK := Lib.hid (fun k z h => take_snoc_of zs k z h)
  have HD := Lib.hid (show difI zs = (fstTo zs zs.length).length from rfl)
  have HF0 := Lib.hid (show fstTo zs 0 = [] from rfl)
  obtain ⟨D, hD⟩ : ∃ D, difI zs = D := ⟨_, rfl⟩
  rw [hD] at HD ⊢
  obtain ⟨a, c, rfl⟩ := h.len
  clear h hD
  go_enter Try.func56, Try.ntmps56
  go_wp2
  go_loopw [3, 4, 5, 6] (fun s i _ _ wr => ∃ k n : Nat, k ≤ zs.length ∧ i = .int .i64 k ∧ s = .int .i64 ((fstTo zs k).length : Int) ∧ wr = w.drewN n) (fun _ i _ _ _ => zs.length - (intOf i).toNat)
  case atStart => exact ⟨0, 0, Nat.zero_le _, rfl, by rw [HF0.out]; rfl, rfl⟩
  case round =>
    obtain ⟨k, n, hk, rfl, rfl, rfl⟩ := hrel
    by_cases hlt : k < zs.length
    · obtain ⟨z, hz⟩ : ∃ z, zs[k]? = some z := ⟨zs[k], List.getElem?_eq_getElem hlt⟩
      rcases H.out with ⟨_, _, _, e2⟩ | ⟨b, off, cap, he, h2, h3, h4⟩
      · rw [e2] at hz; simp at hz
      obtain ⟨rfl, rfl⟩ : a = some ⟨b, off, none⟩ ∧ c = cap := by simpa using he
      have HC := Lib.hid h4
      have c1 := h4 k z hz
      have HZ := Lib.hid hz
      have i1 : (0 : Int) ≤ (k : Int) := by omega
      have i2 : (k : Int) < (zs.length : Int) := by omega
      have hle := HLE.out k
      obtain ⟨F, hF⟩ : ∃ F, fstTo zs k = F := ⟨_, rfl⟩
      have HFF := Lib.hid hF
      rw [hF] at hle ⊢
      clear h4 he hz hF
      go_wp2
      go_loopw [5, 6] (fun f j wr => ∃ q n : Nat, q ≤ k ∧ j = .int .i64 q ∧ f = .bool (decide (¬ z ∈ zs.take q)) ∧ wr = w.drewN n) (fun _ j _ => k - (intOf j).toNat)
      case atStart => exact ⟨0, n, Nat.zero_le _, rfl, by simp, rfl⟩
      case round =>
        obtain ⟨q, n2, hq, rfl, rfl, rfl⟩ := hrel
        by_cases hlq : q < k
        · obtain ⟨y, hy⟩ : ∃ y, zs[q]? = some y := ⟨zs[q]'(by omega), List.getElem?_eq_getElem _⟩
          have c2 := HC.out q y hy
          have HT := Lib.hid (HTK.out q y hy)
          have j1 : (0 : Int) ≤ (q : Int) := by omega
          have j2 : (q : Int) < (zs.length : Int) := by omega
          have j3 : (q : Int) < (k : Int) := by omega
          clear hy
          by_cases hm : z ∈ zs.take q
          · have hf : decide (¬ z ∈ zs.take q) = false := by simpa using hm
            have HF := Lib.hid (show decide (¬ z ∈ zs.take (q + 1)) = false by rw [HT.out]; simp [hm])
            rw [hf]
            clear hm hf
            go_wp2_with fail
            go_quiet (fail)
            go_wp2
            exact ⟨⟨q + 1, _, by omega, by go_num, by rw [HF.out], by first | rfl | exact World.drewN_drewN _ _ _⟩, by simp [intOf]; omega⟩
          · have hf : decide (¬ z ∈ zs.take q) = true := by simpa using hm
            rw [hf]
            by_cases hyz : y = z
            · have e1 : (y == z) = true := by simpa using hyz
              have e2 : (y != z) = false := by simpa using hyz
              have HF := Lib.hid (show decide (¬ z ∈ zs.take (q + 1)) = false by rw [HT.out]; simp [hyz])
              clear hm hf hyz
              go_wp2_with fail
              go_quiet (fail)
              go_wp2
              exact ⟨⟨q + 1, _, by omega, by go_num, by rw [HF.out], by first | rfl | exact World.drewN_drewN _ _ _⟩, by simp [intOf]; omega⟩
            · have e1 : (y == z) = false := by simpa using hyz
              have e2 : (y != z) = true := by simpa using hyz
              have HF := Lib.hid (show decide (¬ z ∈ zs.take (q + 1)) = true by rw [HT.out]; simp [hm, Ne.symm hyz])
              clear hm hf hyz
              go_wp2_with fail
              go_quiet (fail)
              go_wp2
              exact ⟨⟨q + 1, _, by omega, by go_num, by rw [HF.out], by first | rfl | exact World.drewN_drewN _ _ _⟩, by simp [intOf]; omega⟩
        · obtain rfl : q = k := by omega
          by_cases hm : z ∈ zs.take q
          · have hf : decide (¬ z ∈ zs.take q) = false := by simpa using hm
            have HE := Lib.hid (HOLD.out q z HZ.out hm)
            rw [hf]
            clear hm hf
            go_wp2
            exact ⟨⟨q + 1, n2, by omega, by go_num, by rw [HE.out, HFF.out], rfl⟩, by simp [intOf]; omega⟩
          · have hf : decide (¬ z ∈ zs.take q) = true := by simpa using hm
            have HE := Lib.hid (HNEW.out q z HZ.out hm)
            rw [hf]
            clear hm hf
            go_wp2
            exact ⟨⟨q + 1, n2, by omega, by go_num, by rw [HE.out, HFF.out, List.length_append]; go_num, rfl⟩, by simp [intOf]; omega⟩
    · obtain rfl : k = zs.length := by omega
      rw [← HD.out]
      go_wp2
      go_ret
      exact ⟨rfl, n, rfl⟩

set_option maxRecDepth 100000 in
set_option maxHeartbeats 1000000 in
theorem compactN_any (c : Nat) (w : World) :
    Calls Try.prog 57 #[.slice none 0 c] w fun e w' => e = .returned (.slice none 0 c) ∧ w = w' := by
  go_enter Try.func57, Try.ntmps57
  go_wp2
  go_ret
  exact ⟨rfl, rfl⟩
theorem compactB_any (lo hi : Nat) (v : Value) (ws : List Int) (w : World) (h : BldI w lo hi v ws) (hn : ws.length ≤ 1000000) :
    Calls Try.prog 57 #[v] w fun e w' => ∃ v', e = .returned v' ∧ IntSl w' v' (ddp ws) ∧ Within lo hi w w' := by
  obtain ⟨hs, ⟨hlen, r⟩, h3⟩ := h
  rcases r with ⟨rfl, r2⟩ | ⟨g, cap, cur, rfl, e2, e3, e4, e5, e6, e7⟩
  · have hw : ws = [] := List.eq_nil_of_length_eq_zero r2
    subst hw
    refine (compactN_any 0 w).mono ?_
    rintro e w' ⟨rfl, rfl⟩
    exact ⟨_, rfl, .inl ⟨_, _, rfl, rfl⟩, Within.refl _ _ _⟩
  · have hg := h3 g rfl
    simp only [Nat.mul_one] at e6 e7
    refine (compactI_any g cap ws w cur e3 (fun i z hz => ?_) hn e4 e5).mono ?_
    · have hi : i < ws.length := (List.getElem?_eq_some_iff.1 hz).1
      have : (icells ws)[i]? = some (.int .i64 z) := by simp [icells, hz]
      rw [← e7, List.getElem?_take_of_lt hi] at this
      simpa using this
    · rintro e w' ⟨ds, rfl, hB, hd, hW, hle⟩
      refine ⟨_, rfl, .inr ⟨g, 0, cap, rfl, by omega, by (first | exact e5 | (unfold maxLen at e5; omega)), fun i x hx => ?_⟩, hW.sub (by omega) (by omega)⟩
      rw [Nat.zero_add, hB.cell]
      exact hd i x hx

/-- The number of colours. -/
def cntC (c : List Int × List Int) : Int := (difI c.1 : Int) + (difI c.2 : Int)

end Go.Proofs.Ytjldkejegdljiaa
