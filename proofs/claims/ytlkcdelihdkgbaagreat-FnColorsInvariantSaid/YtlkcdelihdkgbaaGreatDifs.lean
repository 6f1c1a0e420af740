/- The number of different numbers of a list: the plain part. -/
import Derived.Test.YtlkcdelihdkgbaaGreatRank0
import Derived.Test.YtlkcdelihdkgbaaGreatOrdB
import Derived.Test.YtlkcdelihdkgbaaGreatCompI
import Derived.Test.YtlkcdelihdkgbaaGreatOrdI
import Derived.Test.YtlkcdelihdkgbaaGreatPairC
import Derived.Deep.RegionHeld3
namespace Go.Proofs.YtlkcdelihdkgbaaGreat
open Go.RowKit
set_option linter.unusedVariables false
set_option linter.unusedSimpArgs false

/-- The numbers that stand first among the first k. -/
def fstTo (zs : List Int) : Nat → List Int
  | 0 => []
  | k + 1 => match zs[k]? with
    | none => fstTo zs k
    | some z => if z ∈ zs.take k then fstTo zs k else fstTo zs k ++ [z]
/-- How many different numbers there are. -/
def difI (zs : List Int) : Nat := (fstTo zs zs.length).length
theorem fstTo_old {zs : List Int} {k : Nat} {z : Int} (h : zs[k]? = some z) (hm : z ∈ zs.take k) : fstTo zs (k + 1) = fstTo zs k := by
  show (match zs[k]? with | none => _ | some z => _) = _
  rw [h]
  simp only [if_pos hm]
theorem fstTo_new {zs : List Int} {k : Nat} {z : Int} (h : zs[k]? = some z) (hm : ¬ z ∈ zs.take k) : fstTo zs (k + 1) = fstTo zs k ++ [z] := by
  show (match zs[k]? with | none => _ | some z => _) = _
  rw [h]
  simp only [if_neg hm]
theorem mem_fstTo {zs : List Int} {x : Int} : ∀ k, k ≤ zs.length → (x ∈ fstTo zs k ↔ x ∈ zs.take k)
  | 0, _ => by simp [fstTo]
  | k + 1, hk => by
    obtain ⟨z, hz⟩ : ∃ z, zs[k]? = some z := ⟨zs[k], List.getElem?_eq_getElem (by omega)⟩
    have ih := mem_fstTo (zs := zs) (x := x) k (by omega)
    rw [take_snoc_of zs k z hz, List.mem_append, List.mem_singleton]
    by_cases hm : z ∈ zs.take k
    · rw [fstTo_old hz hm, ih]
      exact ⟨.inl, fun h => h.elim id (fun e => e ▸ hm)⟩
    · rw [fstTo_new hz hm, List.mem_append, List.mem_singleton, ih]
theorem nodup_fstTo {zs : List Int} : ∀ k, k ≤ zs.length → (fstTo zs k).Nodup
  | 0, _ => by simp [fstTo]
  | k + 1, hk => by
    obtain ⟨z, hz⟩ : ∃ z, zs[k]? = some z := ⟨zs[k], List.getElem?_eq_getElem (by omega)⟩
    have ih := nodup_fstTo (zs := zs) k (by omega)
    by_cases hm : z ∈ zs.take k
    · rw [fstTo_old hz hm]; exact ih
    · rw [fstTo_new hz hm, List.nodup_append]
      refine ⟨ih, by simp, fun a ha b hb => ?_⟩
      simp at hb
      subst hb
      intro e
      subst e
      exact hm ((mem_fstTo k (by omega)).1 ha)
theorem length_fstTo (zs : List Int) : ∀ k, (fstTo zs k).length ≤ k
  | 0 => by simp [fstTo]
  | k + 1 => by
    have ih := length_fstTo zs k
    show (match zs[k]? with | none => _ | some z => _ : List Int).length ≤ _
    split
    · omega
    · split
      · omega
      · simp; omega
theorem difI_le (zs : List Int) : difI zs ≤ zs.length := length_fstTo zs _
theorem ddpA_lt (p : Int) (l : List Int) (h : (p :: l).Pairwise (fun a b => a ≤ b)) : (p :: ddpA p l).Pairwise (fun a b => a < b) := by
  induction l generalizing p with
  | nil => simp [ddpA]
  | cons b l ih =>
    rw [List.pairwise_cons] at h
    have hb := ih b h.2
    unfold ddpA
    by_cases e : b = p
    · subst e; rw [if_pos rfl]; exact hb
    · rw [if_neg e, List.pairwise_cons]
      refine ⟨fun a ha => ?_, hb⟩
      have hpb : p ≤ b := h.1 b (by simp)
      rcases List.mem_cons.1 ha with rfl | ha
      · omega
      · have := (List.pairwise_cons.1 hb).1 a ha
        omega
theorem ddp_lt {l : List Int} (h : l.Pairwise (fun a b => a ≤ b)) : (ddp l).Pairwise (fun a b => a < b) := by
  cases l with
  | nil => simp [ddp]
  | cons a l => exact ddpA_lt a l h
theorem srt_le (zs : List Int) : (srt zs).Pairwise (fun a b => a ≤ b) := (srt_pairwise zs).imp (fun h => by simpa using h)
/-- The program's number is the reference's. -/
theorem difI_srt (zs : List Int) : (ddp (srt zs)).length = difI zs := by
  refine (perm_of_mem _ _ ?_ (nodup_fstTo zs.length (Nat.le_refl _)) (fun z => ?_)).length_eq
  · exact (ddp_lt (srt_le zs)).imp (fun h => by omega)
  · rw [mem_ddp, mem_fstTo _ (Nat.le_refl _), List.take_length]
    exact (srt_perm zs).mem_iff
end Go.Proofs.YtlkcdelihdkgbaaGreat

/- How many different numbers: the reference's and the program's. -/
namespace Go.Proofs.YtlkcdelihdkgbaaGreat
open Go.RowKit
set_option linter.unusedVariables false
set_option linter.unusedSimpArgs false

set_option maxRecDepth 100000 in
set_option maxHeartbeats 1000000 in
theorem compactN_any (c : Nat) (w : World) :
    Calls Tryz.prog 33 #[.slice none 0 c] w fun e w' => e = .returned (.slice none 0 c) ∧ w = w' := by
  go_enter Tryz.func33, Tryz.ntmps33
  go_wp2
  go_ret
  exact ⟨rfl, rfl⟩
theorem compactB_any (lo hi : Nat) (v : Value) (ws : List Int) (w : World) (h : BldI w lo hi v ws) (hn : ws.length ≤ 1000000) :
    Calls Tryz.prog 33 #[v] w fun e w' => ∃ v', e = .returned v' ∧ IntSl w' v' (ddp ws) ∧ Within lo hi w w' := by
  obtain ⟨hs, ⟨hlen, r⟩, h3⟩ := h
  rcases r with ⟨rfl, r2⟩ | ⟨g, cap, cur, rfl, e2, e3, e4, e5, e6, e7⟩
  · have hw : ws = [] := List.eq_nil_of_length_eq_zero r2
    subst hw
    refine (compactN_any 0 w).mono ?_
    rintro e w' ⟨rfl, rfl⟩
    exact ⟨_, rfl, .inl ⟨_, _, rfl, rfl⟩, Within.refl _ _ _⟩
  · have hg := h3 g rfl
    simp only [Nat.mul_one] at e6 e7
    refine (compactI_any g cap ws w cur e3 (fun i z hz => ?_) hn e4 e5).mono ?_
    · have hi : i < ws.length := (List.getElem?_eq_some_iff.1 hz).1
      have : (icells ws)[i]? = some (.int .i64 z) := by simp [icells, hz]
      rw [← e7, List.getElem?_take_of_lt hi] at this
      simpa using this
    · rintro e w' ⟨ds, rfl, hB, hd, hW, hle⟩
      refine ⟨_, rfl, .inr ⟨g, 0, cap, rfl, by omega, by (first | exact e5 | (unfold maxLen at e5; omega)), fun i x hx => ?_⟩, hW.sub (by omega) (by omega)⟩
      rw [Nat.zero_add, hB.cell]
      exact hd i x hx

set_option maxRecDepth 100000 in
set_option maxHeartbeats 2000000 in
theorem different_any (sv : Value) (zs : List Int) (w : World) (h : IntSl w sv zs) (hl : zs.length ≤ 1000000) :
    Calls Tryz.prog 63 #[sv] w fun e w' => e = .returned (.int .i64 (difI zs)) ∧ Below w.heap.size w w' := by
  have H := Lib.hid h
  have HSO := Lib.hid (fun Bs sv w h1 h2 h3 => sorted_any Bs sv zs (by omega) w h1 h2 h3)
  obtain ⟨ws, hws⟩ : ∃ ws, srt zs = ws := ⟨_, rfl⟩
  have hwl : ws.length ≤ 1000000 := by rw [← hws, length_srt]; exact hl
  have HCM := Lib.hid (fun lo hi v w h => compactB_any lo hi v ws w h hwl)
  have hdd := difI_srt zs
  rw [hws] at HSO hdd
  rw [← hdd]
  obtain ⟨a, c, rfl⟩ := h.len
  obtain ⟨DD, hDD⟩ : ∃ DD, ddp ws = DD := ⟨_, rfl⟩
  rw [hDD] at HCM ⊢
  clear h hws hdd hDD
  go_enter Tryz.func63, Tryz.ntmps63
  go_wp2_with (first | (go_at_call 35; refine (values_any _ _ _ _).mono ?_; rintro e w' ⟨rfl, rfl⟩) | (go_at_call 34; refine (HSO.out w.heap.size (.slice a zs.length c) _ (by simp) ((Blk.new (cs := #[.slice a zs.length c]) (T := 28) w.heap.size rfl : Blk (w.alloc _) w.heap.size _ _).cell 0) ((H.out.by ((Below.refl _ w).alloc (Nat.le_refl _) _)).at)).mono ?_; rintro e w1 ⟨v, rfl, hB, hb⟩; obtain ⟨a1, c1, rfl⟩ := hB.sized; have HB := Lib.hid hB; have Hb := Lib.hid hb; clear hB hb) | (go_at_call 33; refine (HCM.out _ _ _ _ HB.out).mono ?_; rintro e w2 ⟨v2, rfl, hI2, hw2⟩; obtain ⟨a2, c2, rfl⟩ := hI2.len; have HW2 := Lib.hid hw2; clear hI2 hw2))
  go_ret
  refine ⟨rfl, ?_⟩
  have h1 := Hb.out
  have h2 : Below w.heap.size w w1 := below_on h1 ((Below.refl _ w).alloc (Nat.le_refl _) _)
  exact HW2.out.below h2 (by simp)

/-- The number of colours. -/
def cntC (c : List Int × List Int) : Int := (difI c.1 : Int) + (difI c.2 : Int)

set_option maxRecDepth 100000 in
set_option maxHeartbeats 2000000 in
theorem colorCount_any (c : List Int × List Int) (u : Value) (w : World) (h : CoV w u c) (h1 : c.1.length ≤ 1000000) (h2 : c.2.length ≤ 1000000) :
    Calls Tryz.prog 37 #[u] w fun e w' => e = .returned (.int .i64 (cntC c)) ∧ Below w.heap.size w w' := by
  obtain ⟨s1, s2, rfl, hc1, hc2⟩ := h
  have H1 := Lib.hid (fun w h => different_any s1 c.1 w h h1)
  have H2 := Lib.hid (fun w h => different_any s2 c.2 w h h2)
  have HC1 := Lib.hid hc1
  have HC2 := Lib.hid hc2
  obtain ⟨a, ca, rfl⟩ := hc1.len
  obtain ⟨a', ca', rfl⟩ := hc2.len
  have hd1 := difI_le c.1
  have hd2 := difI_le c.2
  unfold cntC
  generalize difI c.1 = D1 at *
  generalize difI c.2 = D2 at *
  have hw : IntKind.i64.wrap ((D1 : Int) + (D2 : Int)) = (D1 : Int) + (D2 : Int) := by simp [IntKind.wrap, IntKind.bits, IntKind.signed]; omega
  clear hc1 hc2
  go_enter Tryz.func37, Tryz.ntmps37
  go_wp2_with fail
  have kC : Blk (w.alloc (.cells #[.slice a c.1.length ca, .slice a' c.2.length ca'] 35)) w.heap.size #[.slice a c.1.length ca, .slice a' c.2.length ca'] 35 := Blk.new _ rfl
  have qC := kC.cell
  go_region_held3 ((fun w' => (Blk w' (w.heap.size) #[.slice a c.1.length ca, .slice a' c.2.length ca'] 35 ∧ ∀ o, w'.cell? ⟨w.heap.size, o, none⟩ = (#[.slice a c.1.length ca, .slice a' c.2.length ca'] : Array Value)[o]?) ∧ Below w.heap.size w w')) (((try (obtain ⟨⟨hS0, _⟩, hSB⟩ := hHeld)); refine ⟨Blk.both ?_, ?_⟩ <;> first | ((repeat (first | (with_reducible assumption) | (with_reducible refine Blk.drewN ?_ _) | (with_reducible refine Blk.drew ?_) | ((with_reducible refine Blk.new _ ?_); focus (first | omega | (simp; done) | (simp; omega))) | (with_reducible refine Blk.past ?_ _) | ((with_reducible refine Blk.apart ?_ _ _ _ ?_); rotate_left; focus (first | omega | (simp; done) | (simp; omega))) | (with_reducible refine Blk.by (by assumption) ?_))); done) | ((repeat (first | (with_reducible exact Below.refl _ _) | (with_reducible refine below_drewN ?_ _) | (with_reducible refine Below.drew ?_) | (with_reducible refine below_al ?_ _) | (with_reducible refine below_on (by assumption) ?_) | ((with_reducible refine Below.setCell ?_ ?_ _); rotate_left; focus (first | omega | (simp; done) | (simp; omega))) | (with_reducible assumption))); done)))
    (first | (go_at_call_of 63 (Value.slice a c.1.length ca); refine (H1.out _ (HC1.out.by (by ((repeat (first | (with_reducible exact Below.refl _ _) | (with_reducible refine below_drewN ?_ _) | (with_reducible refine Below.drew ?_) | (with_reducible refine below_al ?_ _) | (with_reducible refine below_on (by assumption) ?_) | ((with_reducible refine Below.setCell ?_ ?_ _); rotate_left; focus (first | omega | (simp; done) | (simp; omega))) | (with_reducible assumption))); done)))).mono ?_; rintro e w1 ⟨rfl, hb1⟩; (try (refine with_fact (p := Blk w1 (w.heap.size) #[.slice a c.1.length ca, .slice a' c.2.length ca'] 35) (Blk.by hb1 ?_) ?_; (focus ((repeat (first | (with_reducible assumption) | (with_reducible refine Blk.drewN ?_ _) | (with_reducible refine Blk.drew ?_) | ((with_reducible refine Blk.new _ ?_); focus (first | omega | (simp; done) | (simp; omega))) | (with_reducible refine Blk.past ?_ _) | ((with_reducible refine Blk.apart ?_ _ _ _ ?_); rotate_left; focus (first | omega | (simp; done) | (simp; omega))) | (with_reducible refine Blk.by (by assumption) ?_))); done)); intro k3; have c3' := k3.cell))) | (go_at_call_of 63 (Value.slice a' c.2.length ca'); refine (H2.out _ (HC2.out.by (by ((repeat (first | (with_reducible exact Below.refl _ _) | (with_reducible refine below_drewN ?_ _) | (with_reducible refine Below.drew ?_) | (with_reducible refine below_al ?_ _) | (with_reducible refine below_on (by assumption) ?_) | ((with_reducible refine Below.setCell ?_ ?_ _); rotate_left; focus (first | omega | (simp; done) | (simp; omega))) | (with_reducible assumption))); done)))).mono ?_; rintro e w2 ⟨rfl, hb2⟩))
  all_goals go_wp2
  all_goals go_ret
  all_goals exact ⟨ret_i64 (by first | exact hw | rfl), (by ((repeat (first | (with_reducible exact Below.refl _ _) | (with_reducible refine below_drewN ?_ _) | (with_reducible refine Below.drew ?_) | (with_reducible refine below_al ?_ _) | (with_reducible refine below_on (by assumption) ?_) | ((with_reducible refine Below.setCell ?_ ?_ _); rotate_left; focus (first | omega | (simp; done) | (simp; omega))) | (with_reducible assumption))); done))⟩
end Go.Proofs.YtlkcdelihdkgbaaGreat
