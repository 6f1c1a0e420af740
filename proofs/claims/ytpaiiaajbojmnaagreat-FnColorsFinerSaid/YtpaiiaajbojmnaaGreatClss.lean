/- slices.BinarySearch at int64, for an ascending list that holds what is looked for. -/
import Derived.Test.YtpaiiaajbojmnaaGreatIntB
import Derived.BigRegion
import Derived.Deep.DeepCutAuto
import Derived.Test.YtpaiiaajbojmnaaGreatDifs
import Derived.Test.YtpaiiaajbojmnaaGreatNetBs
import Derived.Test.YtpaiiaajbojmnaaGreatSpecRk
import Derived.Test.YtpaiiaajbojmnaaGreatNormB
namespace Go.Proofs.YtpaiiaajbojmnaaGreat
open Go.RowKit
set_option linter.unusedVariables false
set_option linter.unusedSimpArgs false

theorem shr_one (z : Int) (h : 0 ≤ z) (h' : z ≤ 9223372036854775807) : IntKind.u64.wrap z = z ∧ z / 2 ≤ z := by
  constructor
  · simp [IntKind.wrap, IntKind.bits, IntKind.signed]; omega
  · omega

set_option maxRecDepth 100000 in
set_option maxHeartbeats 2000000 in
theorem binSearch_any (sv : Value) (As : List Int) (x : Int) (r : Nat) (w : World) (h : IntSl w sv As) (hs : As.Pairwise (fun a b => a < b)) (hr : As[r]? = some x) (hl : As.length ≤ 1000000) :
    Calls Tryz.prog 21 #[sv, .int .i64 x] w fun e w' => e = .returned (.tuple #[.int .i64 (r : Int), .bool true]) ∧ w = w' := by
  have hrl : r < As.length := (List.getElem?_eq_some_iff.1 hr).1
  rcases h with ⟨_, _, _, e2⟩ | ⟨b, off, cap, rfl, h2, h3, h4⟩
  · rw [e2] at hrl; simp at hrl
  have h3' := h3
  have HC := Lib.hid h4
  have hlt1 : ∀ (m : Nat) y, As[m]? = some y → (y < x ↔ m < r) := fun m y hm => by
    obtain ⟨hm', em⟩ := List.getElem?_eq_some_iff.1 hm
    obtain ⟨hr', er⟩ := List.getElem?_eq_some_iff.1 hr
    rw [List.pairwise_iff_getElem] at hs
    rcases Nat.lt_trichotomy m r with c | c | c
    · have := hs m r hm' hr' c
      rw [em, er] at this
      exact ⟨fun _ => c, fun _ => this⟩
    · subst c
      rw [em] at er
      subst er
      exact ⟨fun h => by omega, fun h => by omega⟩
    · have := hs r m hr' hm' c
      rw [em, er] at this
      exact ⟨fun h => by omega, fun h => by omega⟩
  have HLT := Lib.hid hlt1
  have HR := Lib.hid hr
  unfold maxLen at h3
  clear h4 hs hlt1 hr
  go_enter Tryz.func21, Tryz.ntmps21
  go_wp2
  go_loopw [7, 8] (fun i j wr => ∃ (p q : Nat), p ≤ r ∧ r ≤ q ∧ q ≤ As.length ∧ i = .int .i64 (p : Int) ∧ j = .int .i64 (q : Int) ∧ w = wr) (fun i j _ => (intOf j - intOf i).toNat)
  case atStart => exact ⟨0, As.length, Nat.zero_le _, by omega, Nat.le_refl _, rfl, rfl, by first | trivial | rfl⟩
  case round =>
    obtain ⟨p, q, hp, hq, hql, rfl, rfl, rfl⟩ := hrel
    by_cases hpq : p < q
    · obtain ⟨m, hm⟩ : ∃ m, (p + q) / 2 = m := ⟨_, rfl⟩
      have hm1 : p ≤ m ∧ m < q := by omega
      obtain ⟨y, hy⟩ : ∃ y, As[m]? = some y := ⟨As[m]'(by omega), List.getElem?_eq_getElem _⟩
      have hc := HC.out m y hy
      have hiff := HLT.out m y hy
      have i0 : (p : Int) < (q : Int) := by omega
      have i1 : (0 : Int) ≤ (m : Int) := by omega
      have i2 : (m : Int) < (As.length : Int) := by omega
      have e1 : IntKind.i64.wrap ((p : Int) + (q : Int)) = (p : Int) + (q : Int) := by simp [IntKind.wrap, IntKind.bits, IntKind.signed]; omega
      have e2 : IntKind.u64.wrap ((p : Int) + (q : Int)) = (p : Int) + (q : Int) := by simp [IntKind.wrap, IntKind.bits, IntKind.signed]; omega
      clear hy
      go_upto_region 5 with fail
      rw [show ((p : Int) + (q : Int)) / 2 = (m : Int) by omega]
      by_cases hyx : y < x
      · have hmr := hiff.1 hyx
        clear hm
        go_wp2
        exact ⟨⟨m + 1, q, by omega, by omega, hql, by go_num, rfl, by first | trivial | rfl⟩, by simp [intOf]; omega⟩
      · have hmr : r ≤ m := by
          rcases Nat.lt_or_ge m r with c | c
          · exact absurd (hiff.2 c) hyx
          · exact c
        clear hm
        go_wp2
        exact ⟨⟨p, m, hp, hmr, by omega, rfl, by go_num, by first | trivial | rfl⟩, by simp [intOf]; omega⟩
    · obtain rfl : p = r := by omega
      obtain rfl : q = p := by omega
      have hc := HC.out q x HR.out
      have i1 : (0 : Int) ≤ (q : Int) := by omega
      have i2 : (q : Int) < (As.length : Int) := by omega
      have i3 : ¬ (q : Int) < (q : Int) := by omega
      go_wp2
      exact bodyPost_ret (v := .tuple #[.int .i64 (q : Int), .bool true]) (by simp [results, Tryz.results21, go_sem, *]) rfl ⟨rfl, by first | trivial | rfl⟩
end Go.Proofs.YtpaiiaajbojmnaaGreat

/- The classes of colours: the plain part. -/
namespace Go.Proofs.YtpaiiaajbojmnaaGreat
open Go.RowKit
set_option linter.unusedVariables false
set_option linter.unusedSimpArgs false

/-- The places below k at which x stands. -/
def clsTo (zs : List Int) (x : Int) (k : Nat) : List Int := ((List.range k).filter fun i : Nat => match zs[i]? with | some z => decide (z = x) | none => false).map fun i : Nat => (i : Int)
theorem clsTo_step (zs : List Int) (x : Int) (k : Nat) (z : Int) (h : zs[k]? = some z) : clsTo zs x (k + 1) = clsTo zs x k ++ (if z = x then [(k : Int)] else []) := by
  unfold clsTo
  rw [List.range_succ, List.filter_append, List.map_append]
  congr 1
  by_cases e : z = x <;> simp [h, e]
theorem clsTo_len (zs : List Int) (x : Int) (k : Nat) : (clsTo zs x k).length ≤ k := by
  unfold clsTo
  rw [List.length_map]
  have := List.length_filter_le (fun i : Nat => match zs[i]? with | some z => decide (z = x) | none => false) (List.range k)
  simpa using this
/-- The different colours, ascending. -/
def colA (zs : List Int) : List Int := ddp (srt zs)
def clsL (zs : List Int) : List (List Int) := (colA zs).map fun x => clsTo zs x zs.length
/-- What ColorClasses answers. -/
def clsS (zs : List Int) : List (List Int) := if zs.length ≤ 24 then clsL zs else []
theorem length_colA (zs : List Int) : (colA zs).length = difI zs := difI_srt zs
theorem colA_lt (zs : List Int) : (colA zs).Pairwise (fun a b => a < b) := ddp_lt (srt_le zs)
theorem mem_colA {zs : List Int} {z : Int} : z ∈ colA zs ↔ z ∈ zs := by
  unfold colA
  rw [mem_ddp]
  exact (srt_perm zs).mem_iff
theorem colA_inj {zs : List Int} {i j : Nat} {x : Int} (hi : (colA zs)[i]? = some x) (hj : (colA zs)[j]? = some x) : i = j := by
  obtain ⟨hi', ei⟩ := List.getElem?_eq_some_iff.1 hi
  obtain ⟨hj', ej⟩ := List.getElem?_eq_some_iff.1 hj
  have h := colA_lt zs
  rw [List.pairwise_iff_getElem] at h
  rcases Nat.lt_trichotomy i j with hlt | e | hlt
  · have := h i j hi' hj' hlt; omega
  · exact e
  · have := h j i hj' hi' hlt; omega
/-- A colour's rank is its place. -/
theorem rank_col {zs : List Int} {r : Nat} {x : Int} (hr : (colA zs)[r]? = some x) : ((rankOf (zs.map fun z => [z]) [x] : Nat) : Int) = (r : Int) := by
  have hD : ((colA zs).map fun z => [z])[r]? = some [x] := by simp [hr]
  have hs : ((colA zs).map fun z => [z]).Pairwise (fun a b => lcmp a b < 0) := by
    rw [List.pairwise_map]
    refine (colA_lt zs).imp ?_
    intro a b hab
    rw [lcmp_cc, lcmp_nn]
    rcases sgn_cases a b with ⟨_, e⟩ | ⟨_, e⟩ | ⟨_, e⟩ <;> rw [e] <;> simp <;> omega
  have hm : ∀ z, z ∈ ((colA zs).map fun z => [z]) ↔ z ∈ (zs.map fun z => [z]) := by
    intro z
    simp only [List.mem_map, mem_colA]
  have h := place_rank hs hm (x := [x]) ((hm _).1 (List.mem_of_getElem? hD))
  rw [← h]
  refine fidx_hit hD (by simp) (fun j y hj hy => ?_)
  rw [List.getElem?_map, Option.map_eq_some_iff] at hy
  obtain ⟨y', hy', rfl⟩ := hy
  refine decide_eq_false (fun e => ?_)
  have e' : y' = x := by simpa using e
  subst e'
  have := colA_inj hy' hr
  omega
theorem rank_is {zs : List Int} {i r : Nat} {z x v : Int} (hz : zs[i]? = some z) (hx : (colA zs)[r]? = some x) (hv : (rankS (zs.map fun z => [z]))[i]? = some v) : v = (r : Int) ↔ z = x := by
  obtain ⟨s, hs⟩ : ∃ s, (colA zs)[s]? = some z := by
    obtain ⟨s, hs, e⟩ := List.mem_iff_getElem.1 (mem_colA.2 (List.mem_of_getElem? hz))
    exact ⟨s, by rw [List.getElem?_eq_getElem hs, e]⟩
  have hv' : v = (s : Int) := by
    unfold rankS at hv
    rw [List.getElem?_map, List.getElem?_map, hz] at hv
    simp only [Option.map_some, Option.some.injEq] at hv
    rw [← hv]
    exact rank_col hs
  rw [hv']
  constructor
  · intro e
    have : s = r := by omega
    subst this
    rw [hs] at hx
    exact Option.some.inj hx
  · intro e
    subst e
    rw [colA_inj hs hx]
end Go.Proofs.YtpaiiaajbojmnaaGreat

/- The program's ColorClasses. -/
namespace Go.Proofs.YtpaiiaajbojmnaaGreat
open Go.RowKit
set_option linter.unusedVariables false
set_option linter.unusedSimpArgs false

theorem list_pushGI {ops : Array Oper} {rest : List Oper} {o : Oper} {a : Act} {w : World} {Q : Exit → Act → World → Prop} (hgd : o.guard = none) (s x : Operand)
    (ho : o.op = .call { callee := .builtin .append, args := #[s, x], argTypes := #[28, 28] })
    (lo hi : Nat) (v : Value) (zs ys : List Int) (hs : a.eval s = v) (hB : BldI w lo hi v zs) (nb m : Nat) (cs : Array Value) (hx : a.eval x = .slice (some ⟨nb, 0, none⟩) m m) (hys : ys.length = m) (hm : 0 < m)
    (hnb : Blk w nb cs 2) (hcs : cs.toList = icells ys) (hlo : lo ≤ hi) (hn : zs.length + m ≤ 8000000)
    (hK : ∀ g c' w', BldI w' lo w'.heap.size (.slice (some ⟨g, 0, none⟩) (zs.length + m) c') (zs ++ ys) → (∀ k, k < w.heap.size → v.ownBlock ≠ some k → w'.heap[k]? = w.heap[k]?) → (v.ownBlock = some g ∨ w.heap.size ≤ g) → Within lo hi w w' → wpList Tryz.prog ops Q rest (a.put o.dst (.slice (some ⟨g, 0, none⟩) (zs.length + m) c')) w') : wpList Tryz.prog ops Q (o :: rest) a w :=
  wpList_plain hgd fun K hk => by
    have h := step_pushG (ops := ops) (K := K) (Q := Q) (E := False) hgd s x ho lo hi v zs ys hs hB nb m cs hx hys hm hnb hcs hlo hn (fun a' c' w' h1 h2 h3 h4 => hk _ _ (hK a' c' w' h1 h2 h3 h4))
    rwa [if_pos (by simp [Region.wanted, hgd])] at h

/-- What the program hands back: a block of rows, each in memory of its own. -/
def ClsV (w : World) (lo : Nat) (v : Value) (zs : List Int) : Prop :=
  (24 < zs.length ∧ v = .slice none 0 0) ∨ (zs.length ≤ 24 ∧ ∃ N, v = .slice (some ⟨N, 0, none⟩) (colA zs).length (colA zs).length ∧ lo ≤ N ∧ NetsI w N (N + 1) (colA zs).length (fun j : Nat => clsTo zs ((colA zs).getD j 0) zs.length))

set_option maxRecDepth 100000 in
set_option maxHeartbeats 4000000 in
theorem implCls_any (sv : Value) (zs : List Int) (w : World) (h : IntSl w sv zs) (hl : zs.length ≤ 1048576) :
    Calls Tryz.prog 9 #[sv] w fun e w' => ∃ v, e = .returned v ∧ ClsV w' w.heap.size v zs ∧ Below w.heap.size w w' := by
  have H := Lib.hid h
  obtain ⟨a, c, rfl⟩ := h.len
  by_cases h24 : 24 < zs.length
  · have i1 : (24 : Int) < (zs.length : Int) := by omega
    clear h
    go_enter Tryz.func9, Tryz.ntmps9
    go_wp2
    go_ret
    exact ⟨_, rfl, .inl ⟨h24, rfl⟩, Below.refl _ _⟩
  · have i1 : ¬ (24 : Int) < (zs.length : Int) := by omega
    have HSO := Lib.hid (fun Bs sv w h1 h2 h3 => sorted_any Bs sv zs (by omega) w h1 h2 h3)
    obtain ⟨ws, hws⟩ : ∃ ws, srt zs = ws := ⟨_, rfl⟩
    have hwl : ws.length ≤ 1000000 := by rw [← hws, length_srt]; omega
    have HCM := Lib.hid (fun lo hi v w h => compactB_any lo hi v ws w h hwl)
    obtain ⟨AA, hAA⟩ : ∃ A, colA zs = A := ⟨_, rfl⟩
    have hdd : ddp ws = AA := by rw [← hws, ← hAA]; rfl
    rw [hws] at HSO
    rw [hdd] at HCM
    have hm24 : AA.length ≤ 24 := by
      rw [← hAA, length_colA]
      have := difI_le zs
      omega
    have HASC := Lib.hid (show AA.Pairwise (fun a b => a < b) by rw [← hAA]; exact colA_lt zs)
    have HMEM := Lib.hid (fun z => show z ∈ zs → ∃ r : Nat, AA[r]? = some z by
      rw [← hAA]
      intro hz
      obtain ⟨s, hs, e⟩ := List.mem_iff_getElem.1 (mem_colA.2 hz)
      exact ⟨s, by rw [List.getElem?_eq_getElem hs, e]⟩)
    have HINJ := Lib.hid (fun i j x => show AA[i]? = some x → AA[j]? = some x → i = j by rw [← hAA]; exact colA_inj)
    have HST := Lib.hid (fun x k z h => clsTo_step zs x k z h)
    have HLE := Lib.hid (fun x k => clsTo_len zs x k)
    have HC0 := Lib.hid (fun x => show clsTo zs x 0 = [] from rfl)
    have HBS := Lib.hid (fun sv x r w h hr => binSearch_any sv AA x r w h HASC.out hr (by omega))
    have HAA := Lib.hid hAA
    have H24 := Lib.hid h24
    clear h hws hdd hwl hAA h24
    go_enter Tryz.func9, Tryz.ntmps9
    go_wp2_with (first | (go_at_call 20; refine (values_any _ _ _ _).mono ?_; rintro e w' ⟨rfl, rfl⟩) | (go_at_call 19; refine (HSO.out w.heap.size (.slice a zs.length c) _ (by simp) ((Blk.new (cs := #[.slice a zs.length c]) (T := 28) w.heap.size rfl : Blk (w.alloc _) w.heap.size _ _).cell 0) ((H.out.by ((Below.refl _ w).alloc (Nat.le_refl _) _)).at)).mono ?_; rintro e w1 ⟨v, rfl, hB, hb⟩; obtain ⟨a1, c1, rfl⟩ := hB.sized; have HB := Lib.hid hB; have Hb := Lib.hid hb; clear hB hb))
    go_at_call 18
    refine (HCM.out _ _ _ _ HB.out).mono ?_
    rintro e w2 ⟨v2, rfl, hI2, hw2⟩
    obtain ⟨a2, c2, rfl⟩ := hI2.len
    have HI2 := Lib.hid hI2
    have h1 := Hb.out
    have hbw1 : Below w.heap.size w w1 := below_on h1 ((Below.refl _ w).alloc (Nat.le_refl _) _)
    have hb2 : Below w.heap.size w w2 := hw2.below hbw1 (by simp)
    obtain ⟨m, hm⟩ : ∃ m, AA.length = m := ⟨_, rfl⟩
    have HM := Lib.hid hm
    rw [hm] at hm24 ⊢
    obtain ⟨N, hN⟩ : ∃ N, w2.heap.size = N := ⟨_, rfl⟩
    obtain ⟨cs0, hcs0, hcz, hmk⟩ := make_lists m (by omega) w2
    rw [hN] at hmk
    have hNw : w.heap.size ≤ N := by rw [← hN]; exact hb2.size
    clear hI2 hw2 h1 hbw1 hm
    go_wp2
    clear hmk
    obtain ⟨wI, hwI⟩ : ∃ wI, wI = w2.alloc (.cells cs0 28) := ⟨_, rfl⟩
    have hal : Below w2.heap.size w2 wI := by rw [hwI]; exact (Below.refl _ w2).alloc (Nat.le_refl _) _
    have hsI : wI.heap.size = N + 1 := by rw [hwI]; simp [hN]
    have HNI : Hid (NetsI wI N (N + 1) m (fun j : Nat => clsTo zs (AA.getD j 0) 0)) := by
      apply Lib.hid
      refine ⟨cs0, fun _ => .slice none 0 0, by rw [hwI]; exact Blk.new _ hN.symm, hcs0, fun j hj => ⟨hcz j hj, ?_⟩, fun i j hi hj hij g hg => by cases hg⟩
      show BldI wI (N + 1) wI.heap.size (.slice none 0 0) (clsTo zs (AA.getD j 0) 0)
      rw [HC0.out]
      exact BldI.nil wI (N + 1)
    have hal' : Below N w2 wI := by rw [← hN]; exact hal
    have Hb2 := Lib.hid hb2
    have HN2 := Lib.hid hN
    (try rw [← hwI])
    (try rw [hN])
    clear hwI hal hcs0 hcz hN hb2
    go_loopw [21] (fun i wr => ∃ k : Nat, k ≤ zs.length ∧ i = .int .i64 (k : Int) ∧ Hid (NetsI wr N (N + 1) m (fun j : Nat => clsTo zs (AA.getD j 0) k)) ∧ N < wr.heap.size ∧ Below N w2 wr) (fun i _ => zs.length - (intOf i).toNat)
    case atStart => exact ⟨0, Nat.zero_le _, rfl, HNI, by omega, hal'⟩
    case round =>
      clear HNI hal' hsI
      obtain ⟨k, hk, rfl, HNI, hNs, hb⟩ := hrel
      have hbw : Below w.heap.size w wr := Hb2.out.trans (hb.mono hNw)
      have hb' : Below w2.heap.size w2 wr := by rw [HN2.out]; exact hb
      by_cases hlt : k < zs.length
      · obtain ⟨z, hz⟩ : ∃ z, zs[k]? = some z := ⟨zs[k], List.getElem?_eq_getElem hlt⟩
        obtain ⟨r, hr⟩ := HMEM.out z (List.mem_of_getElem? hz)
        have hrm : r < m := by rw [← HM.out]; exact (List.getElem?_eq_some_iff.1 hr).1
        have hrd : AA.getD r 0 = z := by simp [List.getD_eq_getElem?_getD, hr]
        rcases H.out with ⟨_, _, _, e2⟩ | ⟨b, off, cap, he, _, _, h4⟩
        · rw [e2] at hz; simp at hz
        obtain ⟨rfl, rfl⟩ : a = some ⟨b, off, none⟩ ∧ c = cap := by simpa using he
        have hc := cell_by' hbw (h4 k z hz)
        have hbs := HBS.out _ z r wr (HI2.out.by hb') hr
        rw [HM.out] at hbs
        have HBSX := Lib.hid hbs
        have HSTX : Hid (∀ j : Nat, clsTo zs (AA.getD j 0) (k + 1) = clsTo zs (AA.getD j 0) k ++ (if z = AA.getD j 0 then [(k : Int)] else [])) := Lib.hid (fun j => HST.out _ k z hz)
        have HOTH : Hid (∀ i, i < m → i ≠ r → ¬ z = AA.getD i 0) := Lib.hid (fun i hi hne e => by
          have hi' : AA[i]? = some (AA.getD i 0) := by
            rw [List.getD_eq_getElem?_getD, List.getElem?_eq_getElem (by rw [HM.out]; exact hi)]
            rfl
          rw [← e] at hi'
          exact hne (HINJ.out i r z hi' hr))
        have HRD := Lib.hid hrd
        have i2 : (0 : Int) ≤ (k : Int) := by omega
        have i3 : (k : Int) < (zs.length : Int) := by omega
        obtain ⟨cs, vs, n1, n2, n3, n4⟩ := HNI.out
        obtain ⟨n5, n6⟩ := n3 r hrm
        (try dsimp only at n6)
        rw [hrd] at n6
        obtain ⟨Zr, hZr⟩ : ∃ Z, clsTo zs z k = Z := ⟨_, rfl⟩
        have hlen := HLE.out z k
        rw [hZr] at n6 hlen
        have HZR := Lib.hid hZr
        obtain ⟨av, cv, hvs⟩ := n6.sized
        have cN : wr.cell? ⟨N, r, none⟩ = some (vs r) := (n1.cell _).trans n5
        rw [hvs] at cN n6
        have HVS := Lib.hid hvs
        have HN1 := Lib.hid n1
        have HN2' := Lib.hid n2
        have HN3 := Lib.hid n3
        have HN4 := Lib.hid n4
        have HN6 := Lib.hid n6
        have hvl : ∀ g, (Value.slice av Zr.length cv).ownBlock = some g → N + 1 ≤ g ∧ g < wr.heap.size := fun g e => n6.2.2 g e
        have HVL := Lib.hid hvl
        have i4 : (0 : Int) ≤ (r : Int) := by omega
        have i5 : (r : Int) < (m : Int) := by omega
        clear hz hr h4 he hbs n1 n2 n3 n4 n5 n6 hvl hvs hZr hrd
        go_wp2_with fail
        refine HBSX.out.mono ?_
        rintro e w4 ⟨rfl, rfl⟩
        go_wp2_with (refine list_pushGI (by rfl) _ _ (by rfl) (N + 1) wr.heap.size (.slice av Zr.length cv) Zr [(k : Int)] (by rfl) (HN6.out.by (by ((repeat (first | (with_reducible exact Below.refl _ _) | (with_reducible refine below_drewN ?_ _) | (with_reducible refine Below.drew ?_) | (with_reducible refine below_al ?_ _) | (with_reducible refine below_on (by assumption) ?_) | ((with_reducible refine Below.setCell ?_ ?_ _); rotate_left; focus (first | omega | (simp; done) | (simp; omega))) | (with_reducible assumption))); done))) wr.heap.size 1 #[.int .i64 (k : Int)] (by rfl) rfl (by omega) (Blk.new _ rfl) rfl (by omega) (by omega) ?_; intro g5 c5 w5 hB5 hk5 ho5 hw5; have HB5 := Lib.hid hB5; have HK5 := Lib.hid hk5; have HO5 := Lib.hid ho5; have hs5 := hw5.size; simp only [World.size_alloc] at hs5; have kN5 : Blk w5 N cs 28 := hw5.blk (HN1.out.past _) (.inl (by omega)); have fN5 := kN5.free; have lN5 := kN5.lt; have cN5 := (kN5.cell r).trans (HN3.out r hrm).1; clear hB5 hk5 ho5)
        have hbf : Below N w2 w5 := ⟨hw5.os.trans hb.os, hw5.tape.trans hb.tape, hw5.output.trans hb.output, by have := hb.size; omega, fun q hq => (hw5.block q (by simp; omega) (.inl (by omega))).trans (((Below.refl _ wr).alloc (Nat.le_refl _) _).block q (by omega) |>.trans (hb.block q hq))⟩
        have hlst : clsTo zs (AA.getD r 0) (k + 1) = Zr ++ [(k : Int)] := by rw [HSTX.out, HRD.out, if_pos rfl, HZR.out]
        have hlen2 : (Zr ++ [(k : Int)]).length = Zr.length + 1 := by simp
        have hold : ∀ q, q < wr.heap.size → (Value.slice av Zr.length cv).ownBlock ≠ some q → w5.heap[q]? = wr.heap[q]? := fun q hq hne => (HK5.out q (by simp; omega) hne).trans (((Below.refl _ wr).alloc (Nat.le_refl _) _).block q hq)
        have hfin := NetsI.grow (lst := (fun j : Nat => clsTo zs (AA.getD j 0) k)) (lst' := (fun j : Nat => if j < m then clsTo zs (AA.getD j 0) (k + 1) else clsTo zs (AA.getD j 0) k)) (g := g5) (cap := c5) HN1.out HN2'.out HN3.out HN4.out hrm (by omega) (by
          (try dsimp only)
          rw [if_pos hrm, hlst, hlen2]
          exact HB5.out) (by rw [HVS.out]; exact hold) (by rw [HVS.out]; exact HO5.out.imp id (fun e => by simp at e; omega)) (by omega) (fun i hi => by
          (try dsimp only)
          split
          · rename_i him
            rw [HSTX.out, if_neg (HOTH.out i him hi), List.append_nil]
          · rfl)
        (try dsimp only at hfin)
        rw [if_pos hrm, hlst, hlen2] at hfin
        refine ⟨⟨k + 1, by omega, by go_num, Lib.hid ?_, by simp; omega, hbf.setCell (Nat.le_refl _) _⟩, by simp [intOf]; omega⟩
        obtain ⟨ds, us, m1, m2, m3, m4⟩ := hfin
        refine ⟨ds, us, m1, m2, fun j hj => ?_, m4⟩
        have := m3 j hj
        (try dsimp only at this)
        rw [if_pos hj] at this
        exact this
      · obtain rfl : k = zs.length := by omega
        have i2 : ¬ (zs.length : Int) < (zs.length : Int) := by omega
        go_wp2
        go_ret
        refine ⟨_, rfl, .inr ⟨by have := H24.out; omega, N, ?_, hNw, ?_⟩, hbw⟩
        · rw [HAA.out, HM.out]
          rfl
        · rw [HAA.out, HM.out]
          exact HNI.out
end Go.Proofs.YtpaiiaajbojmnaaGreat

/- The reference's ColorClasses. -/
namespace Go.Proofs.YtpaiiaajbojmnaaGreat
open Go.RowKit
set_option linter.unusedVariables false
set_option linter.unusedSimpArgs false

theorem ownR_one' {w : World} {g : Nat} {z : Int} (h : Blk w g #[.int .i64 z] 2) : OwnR w g (g + 1) (.slice (some ⟨g, 0, none⟩) 1 1) [z] := by
  refine .inr ⟨g, 1, _, rfl, Nat.le_refl _, Nat.lt_succ_self _, Nat.le_refl _, by unfold maxLen; omega, h, fun i x hx => ?_⟩
  match i, hx with
  | 0, hx => simp at hx; subst hx; rfl

end Go.Proofs.YtpaiiaajbojmnaaGreat

/- Slices of slices of int64: compared, marked, held. -/
namespace Go.Proofs.YtpaiiaajbojmnaaGreat
open Go.RowKit
set_option linter.unusedVariables false
set_option linter.unusedSimpArgs false

/-- How many numbers the first k rows hold. -/
def lsum (ls : List (List Int)) (k : Nat) : Nat := (ls.take k).flatten.length
theorem lsum_step {ls : List (List Int)} {k : Nat} {xs : List Int} (h : ls[k]? = some xs) : lsum ls (k + 1) = lsum ls k + xs.length := by
  unfold lsum
  rw [take_snoc_of ls k xs h, List.flatten_append, List.length_append]
  simp
theorem lsum_mono (ls : List (List Int)) (k : Nat) : lsum ls k ≤ lsum ls ls.length := by
  unfold lsum
  rw [List.take_of_length_le (Nat.le_refl _)]
  have h : ls.flatten.length = (ls.take k).flatten.length + (ls.drop k).flatten.length := by
    rw [← List.length_append, ← List.flatten_append, List.take_append_drop]
  omega
/-- The rows' marks, from k0 on. -/
def markL (k0 : Int) (ls : List (List Int)) : List (List Int) := (List.range ls.length).map fun j => marks (k0 + (lsum ls j : Int)) (ls.getD j []).length
theorem length_markL (k0 : Int) (ls : List (List Int)) : (markL k0 ls).length = ls.length := by simp [markL]
theorem markL_get {k0 : Int} {ls : List (List Int)} {j : Nat} {xs : List Int} (h : ls[j]? = some xs) : (markL k0 ls)[j]? = some (marks (k0 + (lsum ls j : Int)) xs.length) := by
  obtain ⟨hj, e⟩ := List.getElem?_eq_some_iff.1 h
  simp [markL, hj, List.getD_eq_getElem?_getD, e]
/-- Block N holds rows, each in a block of its own. -/
def OwnLl (w : World) (lo hi : Nat) (v : Value) (ls : List (List Int)) : Prop :=
  (v = .slice none 0 0 ∧ ls = []) ∨ ∃ (N : Nat) (cs : Array Value) (vs : Nat → Value) (f : Nat → Nat), v = .slice (some ⟨N, 0, none⟩) ls.length ls.length ∧ (lo ≤ N ∧ N < hi) ∧ Blk w N cs 28 ∧ ls.length ≤ 1000 ∧
    (∀ (j : Nat) xs, ls[j]? = some xs → cs[j]? = some (vs j) ∧ OwnR w (f j) (f j + 1) (vs j) xs ∧ (lo ≤ f j ∧ f j < hi) ∧ f j ≠ N) ∧ (∀ i j, i < ls.length → j < ls.length → i ≠ j → f i ≠ f j)
theorem OwnLl.ll {w : World} {lo hi : Nat} {v : Value} {ls : List (List Int)} (h : OwnLl w lo hi v ls) : LlSl w v ls := by
  rcases h with ⟨rfl, rfl⟩ | ⟨N, cs, vs, f, rfl, _, hB, hl, hr, _⟩
  · exact .inl ⟨_, _, rfl, rfl⟩
  · refine .inr ⟨N, 0, ls.length, rfl, Nat.le_refl _, by unfold maxLen; omega, fun i xs hx => ?_⟩
    obtain ⟨c1, c2, _⟩ := hr i xs hx
    exact ⟨vs i, by rw [Nat.zero_add, hB.cell]; exact c1, c2.sl⟩
theorem OwnLl.by {w w' : World} {lo hi : Nat} {v : Value} {ls : List (List Int)} (hb : Below w.heap.size w w') (h : OwnLl w lo hi v ls) : OwnLl w' lo hi v ls := by
  rcases h with h | ⟨N, cs, vs, f, h1, h2, hB, hl, hr, hi'⟩
  · exact .inl h
  · refine .inr ⟨N, cs, vs, f, h1, h2, Blk.by hb hB, hl, fun j xs hx => ?_, hi'⟩
    obtain ⟨c1, c2, c3⟩ := hr j xs hx
    exact ⟨c1, OwnR.by hb c2, c3⟩

end Go.Proofs.YtpaiiaajbojmnaaGreat

/- ColorClasses, both, as the exact statement wants them; held slices of slices. -/
namespace Go.Proofs.YtpaiiaajbojmnaaGreat
open Go.RowKit
set_option linter.unusedVariables false
set_option linter.unusedSimpArgs false

theorem OwnLl.past {w w' : World} {lo hi lo' hi' : Nat} {v : Value} {ls : List (List Int)} (hb : Within lo' hi' w w') (h : OwnLl w lo hi v ls) (hd : hi ≤ lo' ∨ hi' ≤ lo) : OwnLl w' lo hi v ls := by
  rcases h with h | ⟨N, cs, vs, f, h1, h2, hB, hl, hr, hi'⟩
  · exact .inl h
  · refine .inr ⟨N, cs, vs, f, h1, h2, hb.blk hB (by omega), hl, fun j xs hx => ?_, hi'⟩
    obtain ⟨c1, c2, c3, c4⟩ := hr j xs hx
    exact ⟨c1, c2.past hb (by omega), c3, c4⟩
/-- What the reference hands back: to be read. -/
def ReadL (w : World) (lo hi : Nat) (v : Value) (ls : List (List Int)) : Prop := BldL w lo hi v ls
theorem ReadL.by {w w' : World} {lo hi : Nat} {v : Value} {ls : List (List Int)} (hb : Below w.heap.size w w') (h : ReadL w lo hi v ls) : ReadL w' lo hi v ls := BldL.by hb h
theorem ReadL.past {w w' : World} {lo hi lo' hi' : Nat} {v : Value} {ls : List (List Int)} (hb : Within lo' hi' w w') (h : ReadL w lo hi v ls) (hd : hi ≤ lo' ∨ hi' ≤ lo) : ReadL w' lo hi v ls :=
  BldL.same h hb.size (fun k h1 h2 => hb.block k (by have := h.1; omega) (by omega))
theorem ReadL.ll {w : World} {lo hi : Nat} {v : Value} {ls : List (List Int)} (h : ReadL w lo hi v ls) : LlSl w v ls := (BldL.ll h).1

theorem clsTo_pos {zs : List Int} {x : Int} (h : x ∈ zs) : 0 < (clsTo zs x zs.length).length := by
  obtain ⟨i, hi, e⟩ := List.mem_iff_getElem.1 h
  refine List.length_pos_of_mem (a := (i : Int)) ?_
  unfold clsTo
  simp only [List.mem_map, List.mem_filter, List.mem_range]
  refine ⟨i, ⟨hi, ?_⟩, rfl⟩
  rw [List.getElem?_eq_getElem hi]
  simpa using e
theorem clsL_get {zs : List Int} {j : Nat} {xs : List Int} (h : (clsL zs)[j]? = some xs) : ∃ x, (colA zs)[j]? = some x ∧ x ∈ zs ∧ xs = clsTo zs x zs.length := by
  unfold clsL at h
  rw [List.getElem?_map, Option.map_eq_some_iff] at h
  obtain ⟨x, hx, rfl⟩ := h
  exact ⟨x, hx, mem_colA.1 (List.mem_of_getElem? hx), rfl⟩
theorem length_clsL (zs : List Int) : (clsL zs).length = (colA zs).length := by simp [clsL]
theorem lsum_le {ls : List (List Int)} (h : ∀ xs ∈ ls, xs.length ≤ 24) : ∀ k, lsum ls k ≤ k * 24
  | 0 => by simp [lsum]
  | k + 1 => by
    have ih := lsum_le h k
    cases e : ls[k]? with
    | none =>
      have hk : ls.length ≤ k := by simpa using e
      unfold lsum at ih ⊢
      rw [List.take_of_length_le (by omega)] at ih ⊢
      omega
    | some xs =>
      rw [lsum_step e]
      have := h xs (List.mem_of_getElem? e)
      omega
theorem clsS_bounds (zs : List Int) : (∀ xs ∈ clsS zs, xs.length ≤ 1000) ∧ lsum (clsS zs) (clsS zs).length ≤ 4000000 ∧ (clsS zs).length ≤ 1000 := by
  unfold clsS
  split
  · rename_i h24
    have hA : (colA zs).length ≤ 24 := by
      rw [length_colA]
      have := difI_le zs
      omega
    have hx : ∀ xs ∈ clsL zs, xs.length ≤ 24 := fun xs hxs => by
      obtain ⟨j, hj, e⟩ := List.mem_iff_getElem.1 hxs
      obtain ⟨x, _, _, rfl⟩ := clsL_get (j := j) (xs := xs) (by rw [List.getElem?_eq_getElem hj, e])
      have := clsTo_len zs x zs.length
      omega
    have h1 := lsum_le hx (clsL zs).length
    rw [length_clsL] at h1 ⊢
    exact ⟨fun xs h => by have := hx xs h; omega, by omega, by omega⟩
  · simp [lsum]
theorem BldI.blk' {w : World} {lo hi : Nat} {v : Value} {zs : List Int} (h : BldI w lo hi v zs) (h0 : 0 < zs.length) :
    ∃ G cap cs, v = .slice (some ⟨G, 0, none⟩) zs.length cap ∧ (lo ≤ G ∧ G < hi) ∧ Blk w G cs 2 ∧ OwnR w G (G + 1) v zs := by
  obtain ⟨hs, ⟨hlen, r⟩, h3⟩ := h
  rcases r with ⟨_, r1⟩ | ⟨g, cap', cur, rfl, e2, e3, e4, e5, e6, e7⟩
  · omega
  · refine ⟨g, cap', cur, rfl, h3 g rfl, e3, .inr ⟨g, cap', cur, rfl, Nat.le_refl _, Nat.lt_succ_self _, e4, e5, e3, fun i z hz => ?_⟩⟩
    have hi : i < zs.length := (List.getElem?_eq_some_iff.1 hz).1
    have : (icells zs)[i]? = some (.int .i64 z) := by simp [icells, hz]
    rw [← e7, List.getElem?_take_of_lt (by omega)] at this
    simpa using this
theorem ClsV.own {w : World} {lo : Nat} {v : Value} {zs : List Int} (h : ClsV w lo v zs) : OwnLl w lo w.heap.size v (clsS zs) := by
  rcases h with ⟨h1, rfl⟩ | ⟨h1, N, rfl, hN, cs, vs, n1, n2, n3, n4⟩
  · refine .inl ⟨rfl, ?_⟩
    unfold clsS
    rw [if_neg (by omega)]
  · have hc : clsS zs = clsL zs := by unfold clsS; rw [if_pos h1]
    rw [hc]
    have hl := length_clsL zs
    have hA : (colA zs).length ≤ 24 := by
      rw [length_colA]
      have := difI_le zs
      omega
    have hrow : ∀ (j : Nat) xs, (clsL zs)[j]? = some xs → j < (colA zs).length ∧ cs[j]? = some (vs j) ∧ ∃ G, (vs j).ownBlock = some G ∧ N + 1 ≤ G ∧ G < w.heap.size ∧ OwnR w G (G + 1) (vs j) xs := fun j xs hx => by
      obtain ⟨x, hx1, hx2, rfl⟩ := clsL_get hx
      have hj : j < (colA zs).length := (List.getElem?_eq_some_iff.1 hx1).1
      obtain ⟨m1, m2⟩ := n3 j hj
      have hd : (colA zs).getD j 0 = x := by simp [List.getD_eq_getElem?_getD, hx1]
      (try dsimp only at m2)
      rw [hd] at m2
      obtain ⟨G, cap, cur, e1, e2, e3, e4⟩ := m2.blk' (clsTo_pos hx2)
      exact ⟨hj, m1, G, by rw [e1]; rfl, e2.1, e2.2, e4⟩
    refine .inr ⟨N, cs, vs, fun j => ((vs j).ownBlock).getD 0, by rw [hl], ⟨hN, n1.lt⟩, n1, by rw [hl]; omega, fun j xs hx => ?_, fun i j hi hj hij e => ?_⟩
    · obtain ⟨hj, m1, G, g1, g2, g3, g4⟩ := hrow j xs hx
      simp only [g1, Option.getD_some]
      exact ⟨m1, g4, ⟨by omega, g3⟩, by omega⟩
    · obtain ⟨hi', _, G, g1, _⟩ := hrow i _ (List.getElem?_eq_getElem hi)
      obtain ⟨hj', _, G', g1', _⟩ := hrow j _ (List.getElem?_eq_getElem hj)
      simp only [g1, g1', Option.getD_some] at e
      subst e
      exact n4 i j hi' hj' hij G g1 g1'
theorem implClasses_any (sv : Value) (zs : List Int) (w : World) (h : IntSl w sv zs) (hl : zs.length ≤ 1048576) :
    Calls Tryz.prog 9 #[sv] w fun e w' => ∃ v, e = .returned v ∧ OwnLl w' w.heap.size w'.heap.size v (clsS zs) ∧ Below w.heap.size w w' := by
  refine (implCls_any sv zs w h hl).mono ?_
  rintro e w' ⟨v, rfl, hv, hb⟩
  exact ⟨v, rfl, hv.own, hb⟩
end Go.Proofs.YtpaiiaajbojmnaaGreat
