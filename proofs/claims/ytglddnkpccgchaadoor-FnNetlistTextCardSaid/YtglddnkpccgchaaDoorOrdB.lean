/- Permutations of 0 .. n-1, their inverses, one behind another: plain. -/
import Derived.Test.YtglddnkpccgchaaDoorBase
import Derived.Test.YtglddnkpccgchaaDoorCopies
import Derived.Test.YtglddnkpccgchaaDoorBldg
namespace Go.Proofs.YtglddnkpccgchaaDoor
set_option linter.unusedVariables false
def iota (n : Nat) : List Int := (List.range n).map (fun (i : Nat) => (i : Int))
theorem length_iota (n : Nat) : (iota n).length = n := by simp [iota]
theorem iota_get (n i : Nat) (h : i < n) : (iota n)[i]? = some (i : Int) := by simp [iota, h]
theorem mem_iota (n : Nat) (z : Int) : z ∈ iota n ↔ 0 ≤ z ∧ z < n := by
  simp only [iota, List.mem_map, List.mem_range]
  constructor
  · rintro ⟨i, hi, rfl⟩; omega
  · intro h; exact ⟨z.toNat, by omega, by omega⟩
theorem pairwise_iota (n : Nat) : (iota n).Pairwise (fun x y => decide (x ≤ y) = true) := by
  rw [List.pairwise_iff_getElem]
  intro i j hi hj hij
  simp [iota]; omega
theorem nodup_iota (n : Nat) : (iota n).Nodup := by
  unfold List.Nodup
  rw [List.pairwise_iff_getElem]
  intro i j hi hj hij
  simp [iota]; omega
theorem perm_of_nodup : ∀ (l r : List Int), l.Nodup → (∀ z ∈ l, z ∈ r) → r.length ≤ l.length → l.Perm r
  | [], r, _, _, h => by
    have : r = [] := List.eq_nil_of_length_eq_zero (by simpa using h)
    subst this; exact List.Perm.nil
  | a :: l, r, hn, hs, h => by
    rw [List.nodup_cons] at hn
    have ha : a ∈ r := hs a (by simp)
    have hp := List.perm_cons_erase ha
    refine (List.Perm.cons a (perm_of_nodup l (r.erase a) hn.2 (fun z hz => ?_) ?_)).trans hp.symm
    · rw [List.mem_erase_of_ne (fun e => hn.1 (by rw [← e]; exact hz))]
      exact hs z (by simp [hz])
    · rw [List.length_erase_of_mem ha]; simp at h; omega
def permB (zs : List Int) (n : Int) : Bool := decide ((zs.length : Int) = n ∧ zs.Nodup ∧ ∀ z ∈ zs, 0 ≤ z ∧ z < n)
theorem permB_iff {zs : List Int} {n : Int} : permB zs n = true ↔ ((zs.length : Int) = n ∧ zs.Nodup ∧ ∀ z ∈ zs, 0 ≤ z ∧ z < n) := by simp [permB]
theorem permB_perm {zs : List Int} {n : Int} (h : permB zs n = true) : zs.Perm (iota zs.length) := by
  obtain ⟨h1, h2, h3⟩ := permB_iff.1 h
  refine perm_of_nodup _ _ h2 (fun z hz => ?_) (by rw [length_iota]; exact Nat.le_refl _)
  rw [mem_iota, h1]; exact h3 z hz
def srt (zs : List Int) : List Int := zs.mergeSort (fun x y => decide (x ≤ y))
theorem length_srt (zs : List Int) : (srt zs).length = zs.length := by simp [srt]
theorem srt_perm (zs : List Int) : (srt zs).Perm zs := List.mergeSort_perm _ _
theorem srt_pairwise (zs : List Int) : (srt zs).Pairwise (fun x y => decide (x ≤ y) = true) :=
  List.pairwise_mergeSort (fun a b c h1 h2 => by simp at *; omega) (fun a b => by simp; omega) zs
theorem srt_of_perm {xs ys : List Int} (h : xs.Perm ys) (hy : ys.Pairwise (fun x y => decide (x ≤ y) = true)) : srt xs = ys :=
  List.Perm.eq_of_pairwise (fun a b _ _ h1 h2 => by simp at h1 h2; omega) (srt_pairwise xs) hy ((srt_perm xs).trans h)
theorem srt_permB {zs : List Int} {n : Int} (h : permB zs n = true) : srt zs = iota zs.length := srt_of_perm (permB_perm h) (pairwise_iota _)
theorem permB_srt_no {zs : List Int} {n : Int} {k : Nat} {v : Int} (hk : (srt zs)[k]? = some v) (hne : v ≠ k) : permB zs n = false := by
  cases h : permB zs n with
  | false => rfl
  | true =>
    have hl := (List.getElem?_eq_some_iff.1 hk).1
    rw [length_srt] at hl
    rw [srt_permB h, iota_get _ _ hl] at hk
    cases hk; exact absurd rfl hne
theorem permB_srt_all {zs : List Int} {n : Int} (h : ∀ (k : Nat) v, (srt zs)[k]? = some v → v = k) : permB zs n = decide ((zs.length : Int) = n) := by
  have e : srt zs = iota zs.length := by
    apply List.ext_getElem?
    intro k
    by_cases hk : k < zs.length
    · rw [iota_get _ _ hk, List.getElem?_eq_getElem (by rw [length_srt]; exact hk)]
      rw [h k _ (List.getElem?_eq_getElem (by rw [length_srt]; exact hk))]
    · rw [List.getElem?_eq_none (by rw [length_srt]; omega), List.getElem?_eq_none (by rw [length_iota]; omega)]
  by_cases hn : (zs.length : Int) = n
  · rw [decide_eq_true hn, permB_iff]
    have hp : zs.Perm (iota zs.length) := by rw [← e]; exact (srt_perm zs).symm
    refine ⟨hn, hp.nodup_iff.2 (nodup_iota _), fun z hz => ?_⟩
    have := (mem_iota _ _).1 (hp.mem_iff.1 hz)
    omega
  · rw [decide_eq_false hn]
    cases h' : permB zs n with
    | false => rfl
    | true => exact absurd (permB_iff.1 h').1 hn
theorem permB_out {zs : List Int} {n z : Int} (hz : z ∈ zs) (h : ¬ (0 ≤ z ∧ z < n)) : permB zs n = false := by
  cases h' : permB zs n with
  | false => rfl
  | true => exact absurd ((permB_iff.1 h').2.2 z hz) h
theorem permB_dup {zs : List Int} {n z : Int} {i j : Nat} (hij : i < j) (hi : zs[i]? = some z) (hj : zs[j]? = some z) : permB zs n = false := by
  cases h' : permB zs n with
  | false => rfl
  | true =>
    have h2 := (permB_iff.1 h').2.1
    unfold List.Nodup at h2
    rw [List.pairwise_iff_getElem] at h2
    obtain ⟨li, ei⟩ := List.getElem?_eq_some_iff.1 hi
    obtain ⟨lj, ej⟩ := List.getElem?_eq_some_iff.1 hj
    exact absurd (ei.trans ej.symm) (h2 i j li lj hij)
theorem permB_all {zs : List Int} {n : Int} (h1 : ∀ z ∈ zs, 0 ≤ z ∧ z < n) (h2 : ∀ (i j : Nat) z, i < j → zs[i]? = some z → zs[j]? = some z → False) : permB zs n = decide ((zs.length : Int) = n) := by
  by_cases hn : (zs.length : Int) = n
  · rw [decide_eq_true hn, permB_iff]
    refine ⟨hn, ?_, h1⟩
    unfold List.Nodup
    rw [List.pairwise_iff_getElem]
    intro i j li lj hij e
    exact h2 i j zs[i] hij (List.getElem?_eq_getElem li) (by rw [e]; exact List.getElem?_eq_getElem lj)
  · rw [decide_eq_false hn]
    cases h' : permB zs n with
    | false => rfl
    | true => exact absurd (permB_iff.1 h').1 hn
/-- The inverse of a permutation, the first k entries laid. -/
def invTo (zs : List Int) : Nat → List Int
  | 0 => List.replicate zs.length 0
  | k + 1 => (invTo zs k).set (zs.getD k 0).toNat k
def invS (zs : List Int) : List Int := invTo zs zs.length
theorem length_invTo (zs : List Int) (k : Nat) : (invTo zs k).length = zs.length := by
  induction k with
  | zero => simp [invTo]
  | succ k ih => simp [invTo, ih]
theorem length_invS (zs : List Int) : (invS zs).length = zs.length := length_invTo _ _
theorem invTo_step (zs : List Int) (k : Nat) (z : Int) (h : zs[k]? = some z) : invTo zs (k + 1) = (invTo zs k).set z.toNat k := by
  simp [invTo, List.getD, h]
theorem invTo_get {zs : List Int} {n : Int} (hp : permB zs n = true) (k i : Nat) (z : Int) (hik : i < k) (hk : k ≤ zs.length) (hz : zs[i]? = some z) : (invTo zs k)[z.toNat]? = some (i : Int) := by
  obtain ⟨h1, h2, h3⟩ := permB_iff.1 hp
  induction k with
  | zero => omega
  | succ k ih =>
    obtain ⟨y, hy⟩ : ∃ y, zs[k]? = some y := ⟨zs[k], List.getElem?_eq_getElem (by omega)⟩
    rw [invTo_step zs k y hy]
    have hzr := h3 z (List.mem_of_getElem? hz)
    have hyr := h3 y (List.mem_of_getElem? hy)
    by_cases e : i = k
    · subst e
      rw [hz] at hy; cases hy
      rw [List.getElem?_set_self (by rw [length_invTo]; omega)]
    · have hne : y.toNat ≠ z.toNat := by
        intro e'
        have : y = z := by omega
        subst this
        have := permB_dup (n := n) (show i < k by omega) hz hy
        rw [this] at hp; cases hp
      rw [List.getElem?_set_ne hne]
      exact ih (by omega) (by omega)
theorem invS_get {zs : List Int} {n : Int} (hp : permB zs n = true) (i : Nat) (z : Int) (hz : zs[i]? = some z) : (invS zs)[z.toNat]? = some (i : Int) :=
  invTo_get hp _ i z (List.getElem?_eq_some_iff.1 hz).1 (Nat.le_refl _) hz
theorem permB_has {zs : List Int} {n : Int} (hp : permB zs n = true) (k : Int) (h0 : 0 ≤ k) (h1 : k < n) : ∃ i : Nat, zs[i]? = some k := by
  have := (permB_perm hp).mem_iff (a := k)
  rw [mem_iota] at this
  have hl := (permB_iff.1 hp).1
  obtain ⟨i, hi, e⟩ := List.mem_iff_getElem.1 (this.2 ⟨h0, by omega⟩)
  exact ⟨i, by rw [List.getElem?_eq_getElem hi, e]⟩
theorem invS_inv {zs : List Int} {n : Int} (hp : permB zs n = true) (k : Nat) (hk : (k : Int) < n) : ∃ i : Nat, (invS zs)[k]? = some (i : Int) ∧ zs[i]? = some (k : Int) := by
  obtain ⟨i, hi⟩ := permB_has hp k (by omega) hk
  have := invS_get hp i k hi
  exact ⟨i, by simpa using this, hi⟩
theorem permB_invS {zs : List Int} {n : Int} (hp : permB zs n = true) : permB (invS zs) n = true := by
  obtain ⟨h1, h2, h3⟩ := permB_iff.1 hp
  have hl := length_invS zs
  have key : ∀ (k : Nat) v, (invS zs)[k]? = some v → ∃ i : Nat, v = i ∧ zs[i]? = some (k : Int) := by
    intro k v hv
    have hk := (List.getElem?_eq_some_iff.1 hv).1
    obtain ⟨i, e1, e2⟩ := invS_inv hp k (by omega)
    rw [e1] at hv; cases hv
    exact ⟨i, rfl, e2⟩
  rw [permB_all, hl, decide_eq_true h1]
  · intro z hz
    obtain ⟨k, hk, e⟩ := List.mem_iff_getElem.1 hz
    obtain ⟨i, e1, e2⟩ := key k z (by rw [List.getElem?_eq_getElem hk, e])
    have := (List.getElem?_eq_some_iff.1 e2).1
    omega
  · intro a b z hab ha hb
    obtain ⟨i, e1, e2⟩ := key a z ha
    obtain ⟨j, e3, e4⟩ := key b z hb
    have : i = j := by omega
    subst this
    rw [e2] at e4; simp at e4; omega
/-- A permutation behind another one. -/
def thruS (zs ys : List Int) : List Int := zs.map fun z => ys.getD z.toNat 0
theorem length_thruS (zs ys : List Int) : (thruS zs ys).length = zs.length := by simp [thruS]
theorem thru_inv {zs : List Int} {n : Int} (hp : permB zs n = true) : thruS zs (invS zs) = iota zs.length := by
  apply List.ext_getElem?
  intro i
  by_cases hi : i < zs.length
  · rw [iota_get _ _ hi]
    have hz : zs[i]? = some zs[i] := List.getElem?_eq_getElem hi
    have := invS_get hp i zs[i] hz
    simp [thruS, List.getD, hz, this]
  · rw [List.getElem?_eq_none (by rw [length_thruS]; omega), List.getElem?_eq_none (by rw [length_iota]; omega)]
theorem inv_thru {zs : List Int} {n : Int} (hp : permB zs n = true) : thruS (invS zs) zs = iota zs.length := by
  apply List.ext_getElem?
  intro i
  have hl := length_invS zs
  have hn := (permB_iff.1 hp).1
  by_cases hi : i < zs.length
  · rw [iota_get _ _ hi]
    obtain ⟨j, e1, e2⟩ := invS_inv hp i (by omega)
    simp [thruS, List.getD, e1, e2]
  · rw [List.getElem?_eq_none (by rw [length_thruS, hl]; omega), List.getElem?_eq_none (by rw [length_iota]; omega)]
end Go.Proofs.YtglddnkpccgchaaDoor

/- A slice of int64 that grows in memory of the call's own. -/
namespace Go.Proofs.YtglddnkpccgchaaDoor
open Go.RowKit
set_option linter.unusedVariables false
set_option linter.unusedSimpArgs false

def icells (zs : List Int) : List Value := zs.map (Value.int .i64)
theorem icells_push (zs ys : List Int) : icells (zs ++ ys) = icells zs ++ icells ys := by simp [icells]
/-- The slice v holds these numbers, all its memory in blocks from lo on and below hi; it may grow. -/
def BldI (w : World) (lo hi : Nat) (v : Value) (zs : List Int) : Prop := hi ≤ w.heap.size ∧ w.ownsRow lo 2 1 v zs.length (icells zs) ∧ (∀ g, v.ownBlock = some g → lo ≤ g ∧ g < hi)
section
variable {w w' : World} {lo hi : Nat} {v : Value} {zs : List Int}
theorem BldI.nil (w : World) (lo : Nat) : BldI w lo w.heap.size (.slice none 0 0) [] :=
  ⟨Nat.le_refl _, World.ownsRow_nil w lo _ 1, by intro g h; cases h⟩
/-- A slice literal. -/
theorem BldI.lit {g : Nat} {cs : Array Value} (h : Blk w g cs 2) (hcs : cs.toList = icells zs) (hm : zs.length ≤ 1048576) (hlo : lo ≤ g) (hhi : g < hi) (hs : hi ≤ w.heap.size) : BldI w lo hi (.slice (some ⟨g, 0, none⟩) zs.length zs.length) zs := by
  have hl : cs.size = zs.length := by rw [← Array.length_toList, hcs]; simp [icells]
  refine ⟨hs, ⟨by simp [icells], .inr ⟨g, zs.length, cs, rfl, hlo, h, Nat.le_refl _, by unfold maxLen; omega, by omega, ?_⟩⟩, ?_⟩
  · rw [hcs, Nat.mul_one, List.take_of_length_le (by simp [icells])]
  · intro g' hg'
    have : g = g' := by injection hg'
    omega
theorem BldI.by (hb : Below w.heap.size w w') (h : BldI w lo hi v zs) : BldI w' lo hi v zs := by
  obtain ⟨hs, h1, h3⟩ := h
  exact ⟨Nat.le_trans hs hb.size, row_same h1 (fun g hg => hb.block g (by have := h3 g hg; omega)), h3⟩
theorem BldI.past {lo' hi' : Nat} (hb : Within lo' hi' w w') (h : BldI w lo hi v zs) (hd : hi' ≤ lo ∨ hi ≤ lo') : BldI w' lo hi v zs := by
  obtain ⟨hs, h1, h3⟩ := h
  exact ⟨Nat.le_trans hs hb.size, row_same h1 (fun g hg => hb.block g (by have := h3 g hg; omega) (by have := h3 g hg; omega)), h3⟩
theorem BldI.sized (h : BldI w lo hi v zs) : ∃ a c, v = .slice a zs.length c := by
  obtain ⟨_, ⟨_, h1⟩, _⟩ := h
  rcases h1 with ⟨h1, h2⟩ | ⟨g, cap, cur, e1, _⟩
  · exact ⟨none, 0, by rw [h1, h2]⟩
  · exact ⟨_, _, e1⟩
theorem BldI.own (h : BldI w lo hi v zs) : OwnR w lo hi v zs := by
  obtain ⟨hs, ⟨hlen, h1⟩, h3⟩ := h
  rcases h1 with ⟨h1, hn⟩ | ⟨g, cap, cur, e1, e2, e3, e4, e5, e6, e7⟩
  · exact .inl ⟨_, _, h1, List.eq_nil_of_length_eq_zero hn⟩
  · have h4 := h3 g (by rw [e1]; rfl)
    refine .inr ⟨g, cap, cur, e1, h4.1, h4.2, e4, e5, e3, fun i x hx => ?_⟩
    have hi' : i < zs.length := (List.getElem?_eq_some_iff.1 hx).1
    have : (icells zs)[i]? = some (.int .i64 x) := by simp [icells, hx]
    rw [← e7, List.getElem?_take_of_lt (by omega)] at this
    simpa using this
end

/-- append(out, y0, y1, ..), at a step of a region that draws its order. -/
theorem step_pushI {ops : Array Oper} {o : Oper} {a : Act} {w : World} {K : Act → World → Prop} {Q : Exit → Act → World → Prop} {E : Prop} (hgd : o.guard = none) (s x : Operand)
    (ho : o.op = .call { callee := .builtin .append, args := #[s, x], argTypes := #[50, 50] })
    (lo hi : Nat) (v : Value) (zs ys : List Int) (hs : a.eval s = v) (hB : BldI w lo hi v zs) (nb m : Nat) (cs : Array Value) (hx : a.eval x = .slice (some ⟨nb, 0, none⟩) m m) (hys : ys.length = m) (hm : 0 < m)
    (hnb : Blk w nb cs 2) (hcs : cs.toList = icells ys) (hlo : lo ≤ hi) (hn : zs.length + m ≤ 8000000)
    (hK : ∀ a' c' w', BldI w' lo w'.heap.size (.slice a' (zs.length + m) c') (zs ++ ys) → Within lo hi w w' → K (a.put o.dst (.slice a' (zs.length + m) c')) w') :
    if Region.wanted o (yielded ops a.tmps) = true then Oper.wp Tryd.prog o a w K Q else E := by
  obtain ⟨i0, hi0, hz0, hz1, hz2⟩ := info_parts infoI
  obtain ⟨hsz, h1, h3⟩ := hB
  refine step_append_lies w hgd s x 50 ho lo 2 i0 _ 1 8 Tryd.underlying50 hi0 hz0 hz1 hz2 rfl (by decide) v zs.length _ hs h1 ⟨nb, 0, none⟩ m m (icells ys) hx (by simp [icells, hys]) (by rw [← hcs]; exact World.news_of_block (cs := cs) hnb) ?_ hm (by unfold maxLen; omega) (by omega) (by omega) w.heap.size rfl ?_
  · intro u hu
    simp only [icells, List.mem_map] at hu
    obtain ⟨_, _, rfl⟩ := hu
    rfl
  · intro g cap w' hrow hgrow hg hgl
    have hW : Within lo hi w w' := grown_within hgrow h3
    refine hK (some ⟨g, 0, none⟩) cap w' ⟨Nat.le_refl _, ?_, ?_⟩ hW
    · rw [List.length_append, hys, icells_push]; exact hrow
    · intro g' hg'
      have : g = g' := by injection hg'
      subst this
      rcases hg with h | h
      · have := h3 g h; omega
      · omega
/-- .. at a plain list of operations. -/
theorem list_pushI {ops : Array Oper} {rest : List Oper} {o : Oper} {a : Act} {w : World} {Q : Exit → Act → World → Prop} (hgd : o.guard = none) (s x : Operand)
    (ho : o.op = .call { callee := .builtin .append, args := #[s, x], argTypes := #[50, 50] })
    (lo hi : Nat) (v : Value) (zs ys : List Int) (hs : a.eval s = v) (hB : BldI w lo hi v zs) (nb m : Nat) (cs : Array Value) (hx : a.eval x = .slice (some ⟨nb, 0, none⟩) m m) (hys : ys.length = m) (hm : 0 < m)
    (hnb : Blk w nb cs 2) (hcs : cs.toList = icells ys) (hlo : lo ≤ hi) (hn : zs.length + m ≤ 8000000)
    (hK : ∀ a' c' w', BldI w' lo w'.heap.size (.slice a' (zs.length + m) c') (zs ++ ys) → Within lo hi w w' → wpList Tryd.prog ops Q rest (a.put o.dst (.slice a' (zs.length + m) c')) w') : wpList Tryd.prog ops Q (o :: rest) a w :=
  wpList_plain hgd fun K hk => by
    have h := step_pushI (ops := ops) (K := K) (Q := Q) (E := False) hgd s x ho lo hi v zs ys hs hB nb m cs hx hys hm hnb hcs hlo hn (fun a' c' w' h1 h2 => hk _ _ (hK a' c' w' h1 h2))
    rwa [if_pos (by simp [Region.wanted, hgd])] at h
end Go.Proofs.YtglddnkpccgchaaDoor
