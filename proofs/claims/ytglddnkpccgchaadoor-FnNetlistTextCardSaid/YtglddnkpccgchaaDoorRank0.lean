/- Ranks of lists: the plain part. -/
import Derived.Test.YtglddnkpccgchaaDoorCmps
import Derived.Test.YtglddnkpccgchaaDoorBase
import Derived.Test.YtglddnkpccgchaaDoorOrdB
import Derived.Test.YtglddnkpccgchaaDoorCopies
import Derived.Test.YtglddnkpccgchaaDoorFidxs
import Derived.Test.YtglddnkpccgchaaDoorValid0
import Derived.Laws.IdiomCopy
import Derived.Laws.AppendOwn
namespace Go.Proofs.YtglddnkpccgchaaDoor
open Go.RowKit
set_option linter.unusedVariables false
set_option linter.unusedSimpArgs false

theorem sgn_cases (a b : Int) : (a < b ∧ sgn a b = -1) ∨ (a = b ∧ sgn a b = 0) ∨ (b < a ∧ sgn a b = 1) := by
  rcases Int.lt_trichotomy a b with h | h | h
  · exact .inl ⟨h, sgn_lt h⟩
  · exact .inr (.inl ⟨h, sgn_eq h⟩)
  · exact .inr (.inr ⟨h, sgn_gt h⟩)
theorem lcmp_nn : lcmp [] [] = 0 := rfl
theorem lcmp_nc (b : Int) (s : List Int) : lcmp [] (b :: s) = -1 := rfl
theorem lcmp_cn (a : Int) (r : List Int) : lcmp (a :: r) [] = 1 := rfl
theorem lcmp_cc (a b : Int) (r s : List Int) : lcmp (a :: r) (b :: s) = if sgn a b = 0 then lcmp r s else sgn a b := rfl
theorem lcmp_flip : ∀ (a b : List Int), lcmp a b = - lcmp b a
  | [], [] => by simp [lcmp_nn]
  | [], _ :: _ => by rw [lcmp_nc, lcmp_cn]
  | _ :: _, [] => by rw [lcmp_nc, lcmp_cn]; rfl
  | a :: r, b :: s => by
    have ih := lcmp_flip r s
    rw [lcmp_cc, lcmp_cc]
    rcases sgn_cases a b with ⟨h, e⟩ | ⟨h, e⟩ | ⟨h, e⟩
    · rw [e, sgn_gt h]; simp
    · subst h; rw [e]; simpa using ih
    · rw [e, sgn_lt h]; simp
theorem lcmp_trans : ∀ (a b c : List Int), lcmp a b < 0 → lcmp b c < 0 → lcmp a c < 0
  | [], [], c, h, _ => by simp [lcmp_nn] at h
  | [], _ :: _, [], _, h => by simp [lcmp_cn] at h
  | [], _ :: _, _ :: _, _, _ => by simp [lcmp_nc]
  | _ :: _, [], _, h, _ => by simp [lcmp_cn] at h
  | _ :: _, _ :: _, [], _, h => by simp [lcmp_cn] at h
  | a :: r, b :: s, c :: t, h1, h2 => by
    rw [lcmp_cc] at *
    rcases sgn_cases a b with ⟨h, e⟩ | ⟨h, e⟩ | ⟨h, e⟩ <;> rcases sgn_cases b c with ⟨h', e'⟩ | ⟨h', e'⟩ | ⟨h', e'⟩ <;> rw [e] at h1 <;> rw [e'] at h2 <;> simp at h1 h2
    · rw [sgn_lt (by omega)]; simp
    · subst h'; rw [e]; simp
    · subst h; rw [e']; simp
    · subst h; rw [e']; simpa using lcmp_trans r s t h1 h2
theorem lcmp_ntrans : ∀ (a b c : List Int), 0 ≤ lcmp a b → 0 ≤ lcmp b c → 0 ≤ lcmp a c
  | [], [], c, _, h => h
  | [], _ :: _, _, h, _ => by simp [lcmp_nc] at h
  | _ :: _, [], [], _, _ => by simp [lcmp_cn]
  | _ :: _, [], _ :: _, _, h => by simp [lcmp_nc] at h
  | _ :: _, _ :: _, [], _, _ => by simp [lcmp_cn]
  | a :: r, b :: s, c :: t, h1, h2 => by
    rw [lcmp_cc] at *
    rcases sgn_cases a b with ⟨h, e⟩ | ⟨h, e⟩ | ⟨h, e⟩ <;> rcases sgn_cases b c with ⟨h', e'⟩ | ⟨h', e'⟩ | ⟨h', e'⟩ <;> rw [e] at h1 <;> rw [e'] at h2 <;> simp at h1 h2
    · subst h; rw [e']; simpa using lcmp_ntrans r s t h1 h2
    · subst h; rw [e']; simp
    · subst h'; rw [e]; simp
    · rw [sgn_gt (by omega)]; simp
theorem lcmp_self (a : List Int) : lcmp a a = 0 := (lcmp_zero a a).2 rfl
theorem lcmp_lt_of_ne {a b : List Int} (h : lcmp a b ≤ 0) (hne : a ≠ b) : lcmp a b < 0 := by
  have : lcmp a b ≠ 0 := fun e => hne ((lcmp_zero a b).1 e)
  omega

/-- Whether list k is the first of its like. -/
def firstAt (ls : List (List Int)) (k : Nat) : Bool := (List.range k).all fun j => decide (lcmp (ls.getD j []) (ls.getD k []) ≠ 0)
/-- How many of the first k are the first of their like and less than x. -/
def rankTo (ls : List (List Int)) (x : List Int) (k : Nat) : Nat := (List.range k).countP fun j => firstAt ls j && decide (lcmp (ls.getD j []) x < 0)
def rankOf (ls : List (List Int)) (x : List Int) : Nat := rankTo ls x ls.length
def rankS (ls : List (List Int)) : List Int := ls.map fun x => (rankOf ls x : Int)
theorem rankTo_step (ls : List (List Int)) (x : List Int) (k : Nat) : rankTo ls x (k + 1) = rankTo ls x k + (if firstAt ls k && decide (lcmp (ls.getD k []) x < 0) then 1 else 0) := by
  simp [rankTo, List.range_succ, List.countP_append, List.countP_cons]
theorem rankTo_le (ls : List (List Int)) (x : List Int) (k : Nat) : rankTo ls x k ≤ k := by
  have := List.countP_le_length (p := fun j => firstAt ls j && decide (lcmp (ls.getD j []) x < 0)) (l := List.range k)
  simpa [rankTo] using this
theorem length_rankS (ls : List (List Int)) : (rankS ls).length = ls.length := by simp [rankS]

/-- The lists without their repetitions. -/
def fsts (ls : List (List Int)) : List (List Int) := ((List.range ls.length).filter (firstAt ls)).map fun k => ls.getD k []
theorem rankOf_fsts (ls : List (List Int)) (x : List Int) : rankOf ls x = (fsts ls).countP fun y => decide (lcmp y x < 0) := by
  unfold rankOf rankTo fsts
  rw [List.countP_map, List.countP_filter]
  congr 1
  funext j
  simp [Bool.and_comm]
theorem firstAt_iff {ls : List (List Int)} {k : Nat} : firstAt ls k = true ↔ ∀ j, j < k → ls.getD j [] ≠ ls.getD k [] := by
  simp only [firstAt, List.all_eq_true, List.mem_range, decide_eq_true_eq, ne_eq, lcmp_zero]
theorem mem_fsts {ls : List (List Int)} {x : List Int} : x ∈ fsts ls ↔ x ∈ ls := by
  simp only [fsts, List.mem_map, List.mem_filter, List.mem_range]
  constructor
  · rintro ⟨k, ⟨hk, _⟩, rfl⟩
    rw [List.getD_eq_getElem?_getD, List.getElem?_eq_getElem hk]
    exact List.getElem_mem hk
  · intro hx
    obtain ⟨k, hk, e⟩ := List.mem_iff_getElem.1 hx
    -- the least such place
    have : ∀ n k, k ≤ n → k < ls.length → ls.getD k [] = x → ∃ j, (j < ls.length ∧ firstAt ls j = true) ∧ ls.getD j [] = x := by
      intro n
      induction n with
      | zero =>
        intro k h1 h2 h3
        exact ⟨k, ⟨h2, firstAt_iff.2 (fun j hj => by omega)⟩, h3⟩
      | succ n ih =>
        intro k h1 h2 h3
        by_cases hf : firstAt ls k = true
        · exact ⟨k, ⟨h2, hf⟩, h3⟩
        · rw [firstAt_iff] at hf
          have : ∃ j, j < k ∧ ls.getD j [] = ls.getD k [] := by
            apply Classical.byContradiction
            intro hn
            exact hf (fun j hj e => hn ⟨j, hj, e⟩)
          obtain ⟨j, hj, e⟩ := this
          exact ih j (by omega) (by omega) (e.trans h3)
    exact this k k (Nat.le_refl _) hk (by rw [List.getD_eq_getElem?_getD, List.getElem?_eq_getElem hk]; exact e)
theorem nodup_fsts (ls : List (List Int)) : (fsts ls).Nodup := by
  unfold fsts List.Nodup
  rw [List.pairwise_map]
  have h : (List.range ls.length).Pairwise (fun a b => a < b) := List.pairwise_lt_range
  refine List.Pairwise.imp_of_mem ?_ (h.filter _)
  intro a b ha hb hab e
  have := firstAt_iff.1 (List.mem_filter.1 hb).2 a hab
  exact this e
/-- Two lists without repetitions that hold the same are permutations of each other. -/
theorem perm_of_mem {α : Type} [DecidableEq α] : ∀ (l r : List α), l.Nodup → r.Nodup → (∀ z, z ∈ l ↔ z ∈ r) → l.Perm r
  | [], r, _, _, h => by
    cases r with
    | nil => exact List.Perm.nil
    | cons a s => exact absurd ((h a).2 (by simp)) (by simp)
  | a :: l, r, hn, hr, h => by
    rw [List.nodup_cons] at hn
    have ha : a ∈ r := (h a).1 (by simp)
    have hp := List.perm_cons_erase ha
    have hre : (a :: r.erase a).Nodup := hp.nodup_iff.1 hr
    rw [List.nodup_cons] at hre
    refine (List.Perm.cons a (perm_of_mem l (r.erase a) hn.2 hre.2 (fun z => ?_))).trans hp.symm
    by_cases e : z = a
    · subst e; simp [hn.1, hre.1]
    · rw [List.mem_erase_of_ne e, ← h z]; simp [e]
/-- In a strictly ascending list the place of x is the number of those less than x. -/
theorem place_count : ∀ (D : List (List Int)) (x : List Int), D.Pairwise (fun a b => lcmp a b < 0) → x ∈ D → D[D.countP fun y => decide (lcmp y x < 0)]? = some x ∧ ∀ j y, j < D.countP (fun y => decide (lcmp y x < 0)) → D[j]? = some y → y ≠ x
  | [], x, _, h => by simp at h
  | d :: D, x, hp, hx => by
    rw [List.pairwise_cons] at hp
    by_cases e : d = x
    · subst e
      have hz : (d :: D).countP (fun y => decide (lcmp y d < 0)) = 0 := by
        rw [List.countP_eq_zero]
        intro y hy
        rcases List.mem_cons.1 hy with rfl | hy
        · simp [lcmp_self]
        · have := hp.1 y hy
          rw [lcmp_flip] at this
          simp; omega
      rw [hz]
      exact ⟨rfl, fun j y hj => by omega⟩
    · have hx' : x ∈ D := by
        rcases List.mem_cons.1 hx with h | h
        · exact absurd h.symm e
        · exact h
      have hd : decide (lcmp d x < 0) = true := by simpa using hp.1 x hx'
      obtain ⟨h1, h2⟩ := place_count D x hp.2 hx'
      rw [List.countP_cons_of_pos (p := fun y => decide (lcmp y x < 0)) hd]
      refine ⟨by simpa using h1, fun j y hj hy => ?_⟩
      cases j with
      | zero => simp at hy; subst hy; exact e
      | succ j => exact h2 j y (by omega) (by simpa using hy)
/-- The place of x in a strictly ascending list that holds what ls holds is its rank in ls. -/
theorem place_rank {D ls : List (List Int)} {x : List Int} (hs : D.Pairwise (fun a b => lcmp a b < 0)) (hm : ∀ z, z ∈ D ↔ z ∈ ls) (hx : x ∈ ls) : fidx (fun y => decide (y = x)) D = rankOf ls x := by
  have hn : D.Nodup := hs.imp (fun {a b} h e => by subst e; rw [lcmp_self] at h; omega)
  have hp := perm_of_mem D (fsts ls) hn (nodup_fsts ls) (fun z => by rw [mem_fsts]; exact hm z)
  rw [rankOf_fsts, ← hp.countP_eq]
  obtain ⟨h1, h2⟩ := place_count D x hs ((hm x).2 hx)
  exact fidx_hit h1 (by simp) (fun j y hj hy => by simpa using h2 j y hj hy)

/-- Without the repetitions that stand side by side (p: what stands ahead). -/
def ddpA {α : Type} [DecidableEq α] (p : α) : List α → List α
  | [] => []
  | b :: l => if b = p then ddpA b l else b :: ddpA b l
def ddp {α : Type} [DecidableEq α] : List α → List α
  | [] => []
  | a :: l => a :: ddpA a l
theorem mem_ddpA {α : Type} [DecidableEq α] (p : α) (l : List α) (z : α) : z = p ∨ z ∈ ddpA p l ↔ z = p ∨ z ∈ l := by
  induction l generalizing p with
  | nil => simp [ddpA]
  | cons b l ih =>
    unfold ddpA
    by_cases h : b = p
    · subst h
      rw [if_pos rfl, ih b]; simp
    · rw [if_neg h, List.mem_cons, List.mem_cons, ih b]
theorem mem_ddp {α : Type} [DecidableEq α] (l : List α) (z : α) : z ∈ ddp l ↔ z ∈ l := by
  cases l with
  | nil => simp [ddp]
  | cons a l => simp only [ddp, List.mem_cons]; exact mem_ddpA a l z
theorem ddpA_sorted (p : List Int) (l : List (List Int)) (h : (p :: l).Pairwise (fun a b => lcmp a b ≤ 0)) : (p :: ddpA p l).Pairwise (fun a b => lcmp a b < 0) := by
  induction l generalizing p with
  | nil => simp [ddpA]
  | cons b l ih =>
    rw [List.pairwise_cons] at h
    have hb := ih b h.2
    unfold ddpA
    by_cases e : b = p
    · subst e; rw [if_pos rfl]; exact hb
    · rw [if_neg e, List.pairwise_cons]
      have hpb : lcmp p b < 0 := lcmp_lt_of_ne (h.1 b (by simp)) (fun e' => e e'.symm)
      refine ⟨fun z hz => ?_, hb⟩
      rcases List.mem_cons.1 hz with rfl | hz
      · exact hpb
      · exact lcmp_trans p b z hpb ((List.pairwise_cons.1 hb).1 z hz)
theorem ddp_sorted {l : List (List Int)} (h : l.Pairwise (fun a b => lcmp a b ≤ 0)) : (ddp l).Pairwise (fun a b => lcmp a b < 0) := by
  cases l with
  | nil => exact List.Pairwise.nil
  | cons a l => exact ddpA_sorted a l h
end Go.Proofs.YtglddnkpccgchaaDoor

/- What a walk reads of a slice of slices. -/
namespace Go.Proofs.YtglddnkpccgchaaDoor
open Go.RowKit
set_option linter.unusedVariables false
set_option linter.unusedSimpArgs false

def LlSl (w : World) (sv : Value) (ls : List (List Int)) : Prop :=
  (∃ a c, sv = .slice a 0 c ∧ ls = []) ∨ ∃ b off cap, sv = .slice (some ⟨b, off, none⟩) ls.length cap ∧ ls.length ≤ cap ∧ cap ≤ maxLen ∧ ∀ (i : Nat) (xs : List Int), ls[i]? = some xs → ∃ s, w.cell? ⟨b, off + i, none⟩ = some s ∧ IntSl w s xs
theorem LlSl.by {w w1 : World} {sv : Value} {ls : List (List Int)} (hb : Below w.heap.size w w1) (h : LlSl w sv ls) : LlSl w1 sv ls := by
  rcases h with h | ⟨b, off, cap, h1, h2, h3, h4⟩
  · exact .inl h
  · refine .inr ⟨b, off, cap, h1, h2, h3, fun i xs hx => ?_⟩
    obtain ⟨s, a, b⟩ := h4 i xs hx
    exact ⟨s, cell_by' hb a, b.by hb⟩
theorem LlSl.sized {w : World} {sv : Value} {ls : List (List Int)} (h : LlSl w sv ls) : ∃ a c, sv = .slice a ls.length c := by
  rcases h with ⟨a, c, h1, h2⟩ | ⟨b, off, cap, h1, _⟩
  · exact ⟨a, c, by rw [h2]; exact h1⟩
  · exact ⟨_, _, h1⟩

theorem infoL : (Tryd.prog.info? 50).map (fun i => (i.zero, i.size, i.bytes)) = some (some (.slice none 0 0), 1, 24) := by kernel_rfl
/-- What a walk reads of a slice lies in its world's blocks. -/
theorem IntSl.old {w w' : World} {s : Value} {xs : List Int} (h : IntSl w s xs) (hb : ∀ k, k < w.heap.size → w'.heap[k]? = w.heap[k]?) : IntSl w' s xs := by
  rcases h with h | ⟨b, off, cap, h1, h2, h3, h4⟩
  · exact .inl h
  · refine .inr ⟨b, off, cap, h1, h2, h3, fun i x hx => ?_⟩
    have hc := h4 i x hx
    have hl := lt_of_cell hc
    dsimp only at hl
    rw [← hc]
    simp only [World.cell?, hb b hl]
theorem IntSl.one {w : World} {s : Value} {xs : List Int} (h : IntSl w s xs) : s.oneCell' = true := by
  rcases h with ⟨_, _, rfl, _⟩ | ⟨_, _, _, rfl, _⟩ <;> rfl
/-- As w, but for block blk, as far as w's blocks go. -/
def Off (blk : Nat) (w w' : World) : Prop := ∀ k, k < w.heap.size → k ≠ blk → w'.heap[k]? = w.heap[k]?
end Go.Proofs.YtglddnkpccgchaaDoor

/- slices.DeleteFunc on a slice of devices of the call's own: the plain part, and clear. -/
namespace Go.Proofs.YtglddnkpccgchaaDoor
open Go.RowKit
set_option linter.unusedVariables false
set_option linter.unusedSimpArgs false

theorem run_clear_dev (w : World) (ty : TypeId) (b o n c : Nat) (hn : 0 < n)
    (hc : ∀ j, j < n * 4 → (w.cell? ⟨b, o + j, none⟩).isSome = true) (hf : ∀ j, w.frozen? ⟨b, j, none⟩ = false) :
    ∃ vs : List Value, vs.length = n * 4 ∧ (Builtin.clear_ #[28] ty #[.slice (some ⟨b, o, none⟩) n c]).run Tryd.prog w = .ok (.tuple #[]) (w.setCells b o vs) := by
  have hv : ∀ w, (zeroValue 52).run Tryd.prog w = .ok (.agg #[.int .i64 0, .slice none 0 0, .int .i64 0, .int .i64 0]) w := fun w => by kernel_rfl
  have hz : (Value.agg #[.int .i64 0, .slice none 0 0, .int .i64 0, .int .i64 0]).cells = #[.int .i64 0, .slice none 0 0, .int .i64 0, .int .i64 0] := by kernel_rfl
  have hlen : (Builtin.zeroCells #[Value.int .i64 0, .slice none 0 0, .int .i64 0, .int .i64 0] n).toList.length = n * 4 := by rw [Array.length_toList, size_zeroCells]; rfl
  have h1 : ∀ v ∈ (Builtin.zeroCells #[Value.int .i64 0, .slice none 0 0, .int .i64 0, .int .i64 0] n).toList, v.oneCell' = true := by
    intro v hv'
    simp [Builtin.zeroCells] at hv'
    obtain ⟨i, hi, rfl⟩ := hv'
    have h4 : i % 4 < 4 := Nat.mod_lt _ (by omega)
    generalize i % 4 = m at h4
    match m, h4 with
    | 0, _ => rfl
    | 1, _ => rfl
    | 2, _ => rfl
    | 3, _ => rfl
  have hst := run_storeCells_cells (P := Tryd.prog) b o (Builtin.zeroCells #[Value.int .i64 0, .slice none 0 0, .int .i64 0, .int .i64 0] n).toList 0 w (by rw [hlen]; simpa using hc) (by intro j _; exact hf _) h1
  simp only [Nat.add_zero] at hst
  refine ⟨_, hlen, ?_⟩
  obtain ⟨m, rfl⟩ : ∃ m, n = m + 1 := ⟨n - 1, by omega⟩
  simp [Builtin.clear_, run_underlying Tryd.underlying28, hv, hz, hst]

theorem Blk.setCells (g : Nat) {T : TypeId} : ∀ (vs : List Value) (o : Nat) (w : World) (cs : Array Value), Blk w g cs T → ∃ cs' : Array Value, Blk (w.setCells g o vs) g cs' T ∧ (∀ i, i < o → cs'[i]? = cs[i]?) ∧ Within g (g + 1) w (w.setCells g o vs)
  | [], o, w, cs, h => ⟨cs, h, fun _ _ => rfl, Within.refl _ _ _⟩
  | v :: r, o, w, cs, h => by
    obtain ⟨cs', h1, h2, h3⟩ := Blk.setCells g r (o + 1) (w.setCell ⟨g, o, none⟩ v) _ (h.set o v)
    refine ⟨cs', h1, fun i hi => ?_, (Within.off v).on h3⟩
    rw [h2 i (by omega)]
    simp [Array.getElem?_setIfInBounds, show ¬ o = i by omega]

/-- The device lies in these cells, its pins in block f. -/
def At4 (w : World) (cs : Array Value) (i f : Nat) (x : Dv) : Prop := ∃ pv, Cs4 cs i (.int .i64 x.kind) pv (.int .i64 x.wd) (.int .i64 x.len) ∧ OwnR w f (f + 1) pv x.pins
/-- How far the slice has come: ys lie ahead, what was at k and behind lies where it was. -/
def DelSt (w : World) (lo hi g : Nat) (f : Nat → Nat) (xs ys : List Dv) (k : Nat) (cs : Array Value) : Prop :=
  (∃ h : Nat → Nat, (∀ i y, ys[i]? = some y → At4 w cs i (f (h i)) y ∧ (h i < k ∧ h i < xs.length) ∧ (lo ≤ f (h i) ∧ f (h i) < hi ∧ f (h i) ≠ g)) ∧ (∀ i j, i < ys.length → j < ys.length → i ≠ j → h i ≠ h j)) ∧
  (∀ i x, k ≤ i → xs[i]? = some x → At4 w cs i (f i) x ∧ (lo ≤ f i ∧ f i < hi ∧ f i ≠ g))

section
variable {w w' : World} {lo hi g k : Nat} {f : Nat → Nat} {xs ys : List Dv} {cs cs' : Array Value}
theorem DelSt.skip (h : DelSt w lo hi g f xs ys k cs) : DelSt w lo hi g f xs ys (k + 1) cs := by
  obtain ⟨⟨m, h1, h2⟩, h3⟩ := h
  refine ⟨⟨m, fun i y hy => ?_, h2⟩, fun i x hi hx => h3 i x (by omega) hx⟩
  obtain ⟨a, b, c⟩ := h1 i y hy
  exact ⟨a, ⟨by omega, b.2⟩, c⟩
theorem DelSt.start (h : ∀ i x, xs[i]? = some x → At4 w cs i (f i) x ∧ (lo ≤ f i ∧ f i < hi ∧ f i ≠ g)) (k : Nat) (hk : k < xs.length) : DelSt w lo hi g f xs (xs.take k) (k + 1) cs := by
  refine ⟨⟨fun i => i, fun i y hy => ?_, fun i j _ _ h => h⟩, fun i x _ hx => h i x hx⟩
  dsimp only
  have hi : i < k := by have := (List.getElem?_eq_some_iff.1 hy).1; simp at this; omega
  rw [List.getElem?_take] at hy
  simp [hi] at hy
  exact ⟨(h i y hy).1, ⟨by omega, by omega⟩, (h i y hy).2⟩
theorem Cs4.at_ {cs cs' : Array Value} {i : Nat} {a b c d : Value} (h : Cs4 cs i a b c d) (e : ∀ j, i * 4 ≤ j → j < i * 4 + 4 → cs'[j]? = cs[j]?) : Cs4 cs' i a b c d :=
  ⟨(e _ (by omega) (by omega)).trans h.1, (e _ (by omega) (by omega)).trans h.2.1, (e _ (by omega) (by omega)).trans h.2.2.1, (e _ (by omega) (by omega)).trans h.2.2.2⟩
theorem At4.at_ {i q : Nat} {x : Dv} (h : At4 w cs i q x) (e : ∀ j, i * 4 ≤ j → j < i * 4 + 4 → cs'[j]? = cs[j]?) : At4 w cs' i q x := by
  obtain ⟨pv, h1, h2⟩ := h
  exact ⟨pv, h1.at_ e, h2⟩
def set4 (cs : Array Value) (k : Nat) (a b c d : Value) : Array Value := (((cs.setIfInBounds (k * 4) a).setIfInBounds (k * 4 + 1) b).setIfInBounds (k * 4 + 2) c).setIfInBounds (k * 4 + 3) d
theorem set4_other (cs : Array Value) (k : Nat) (a b c d : Value) (j : Nat) (h : j < k * 4 ∨ k * 4 + 4 ≤ j) : (set4 cs k a b c d)[j]? = cs[j]? := by
  simp [set4, Array.getElem?_setIfInBounds, show ¬ k * 4 = j by omega, show ¬ k * 4 + 1 = j by omega, show ¬ k * 4 + 2 = j by omega, show ¬ k * 4 + 3 = j by omega]
theorem set4_same (cs : Array Value) (k : Nat) (a b c d : Value) (h : k * 4 + 3 < cs.size) : Cs4 (set4 cs k a b c d) k a b c d := by
  refine ⟨?_, ?_, ?_, ?_⟩ <;> simp [set4, Array.getElem?_setIfInBounds] <;> omega
theorem DelSt.push (h : DelSt w lo hi g f xs ys k cs) (hl : ys.length ≤ k) {x : Dv} (hx : xs[k]? = some x) {pv : Value} (hc : Cs4 cs k (.int .i64 x.kind) pv (.int .i64 x.wd) (.int .i64 x.len)) (hO : OwnR w (f k) (f k + 1) pv x.pins) :
    DelSt w lo hi g f xs (ys ++ [x]) (k + 1) (set4 cs ys.length (.int .i64 x.kind) pv (.int .i64 x.wd) (.int .i64 x.len)) := by
  obtain ⟨⟨m, h1, h2⟩, h3⟩ := h
  have hk := (List.getElem?_eq_some_iff.1 hx).1
  have hsz : ys.length * 4 + 3 < cs.size := by have := (Array.getElem?_eq_some_iff.1 hc.2.2.2).1; omega
  refine ⟨⟨fun i => if i = ys.length then k else m i, fun i y hy => ?_, fun i j hi hj hne => ?_⟩, fun i y hi hy => ?_⟩
  · dsimp only
    by_cases e : i = ys.length
    · subst e
      obtain rfl : y = x := by simpa using hy.symm
      rw [if_pos rfl]
      exact ⟨⟨pv, set4_same _ _ _ _ _ _ hsz, hO⟩, ⟨by omega, hk⟩, (h3 k y (Nat.le_refl _) hx).2⟩
    · have hi : i < ys.length := by have := (List.getElem?_eq_some_iff.1 hy).1; simp at this; omega
      rw [List.getElem?_append_left hi] at hy
      obtain ⟨a, b, c⟩ := h1 i y hy
      rw [if_neg e]
      exact ⟨a.at_ (fun j _ _ => set4_other _ _ _ _ _ _ _ (by omega)), ⟨by omega, b.2⟩, c⟩
  · simp at hi hj
    dsimp only
    have hb : ∀ i, i < ys.length → m i < k := fun i hi => (h1 i ys[i] (List.getElem?_eq_getElem hi)).2.1.1
    by_cases e : i = ys.length <;> by_cases e' : j = ys.length
    · omega
    · have := hb j (by omega); rw [if_pos e, if_neg e']; omega
    · have := hb i (by omega); rw [if_neg e, if_pos e']; omega
    · rw [if_neg e, if_neg e']; exact h2 i j (by omega) (by omega) hne
  · obtain ⟨a, b⟩ := h3 i y (by omega) hy
    exact ⟨a.at_ (fun j _ _ => set4_other _ _ _ _ _ _ _ (by omega)), b⟩
theorem DelSt.done (h : DelSt w lo hi g f xs ys k cs) (hinj : ∀ i j, i < xs.length → j < xs.length → i ≠ j → f i ≠ f j) (hw : Within g (g + 1) w w') (hB : Blk w' g cs' 52) (he : ∀ j, j < ys.length * 4 → cs'[j]? = cs[j]?) (hg : lo ≤ g ∧ g < hi) {cap : Nat} (h1 : ys.length ≤ cap) (h2 : cap ≤ maxLen) :
    OwnDs w' lo hi (.slice (some ⟨g, 0, none⟩) ys.length cap) ys := by
  obtain ⟨⟨m, a1, a2⟩, _⟩ := h
  refine .inr ⟨g, cap, cs', fun i => f (m i), rfl, hg, h1, h2, hB, fun i y hy => ?_, fun i j hi hj hne => ?_⟩
  · dsimp only
    obtain ⟨b1, b2, b3⟩ := a1 i y hy
    have hi := (List.getElem?_eq_some_iff.1 hy).1
    obtain ⟨pv, c1, c2⟩ := b1.at_ (cs' := cs') (fun j _ _ => he j (by omega))
    exact ⟨⟨pv, c1, c2.past hw (by omega)⟩, b3⟩
  · exact hinj _ _ (a1 i ys[i] (List.getElem?_eq_getElem hi)).2.1.2 (a1 j ys[j] (List.getElem?_eq_getElem hj)).2.1.2 (a2 i j hi hj hne)
end
/-- The first of which p holds, if any. -/
theorem first_hit {α : Type} (p : α → Bool) (xs : List α) : (∀ x ∈ xs, p x = false) ∨ ∃ (k : Nat) (x : α), xs[k]? = some x ∧ p x = true ∧ ∀ (j : Nat) (y : α), j < k → xs[j]? = some y → p y = false := by
  induction xs with
  | nil => exact .inl (by simp)
  | cons a l ih =>
    cases ha : p a with
    | true => exact .inr ⟨0, a, rfl, ha, fun j y hj => by omega⟩
    | false =>
      rcases ih with h | ⟨k, x, h1, h2, h3⟩
      · exact .inl (by simpa [ha] using h)
      · refine .inr ⟨k + 1, x, h1, h2, fun j y hj hy => ?_⟩
        cases j with
        | zero => simp at hy; subst hy; exact ha
        | succ j => exact h3 j y (by omega) hy
theorem filter_at {α : Type} {p : α → Bool} {xs : List α} {k : Nat} {x : α} (h : xs[k]? = some x) : (xs.take (k + 1)).filter (fun x => !p x) = (xs.take k).filter (fun x => !p x) ++ (if p x = true then [] else [x]) := by
  rw [take_snoc_of xs k x h, List.filter_append]; cases hp : p x <;> simp [hp]
theorem filter_first {α : Type} {p : α → Bool} {xs : List α} {k : Nat} {x : α} (h : xs[k]? = some x) (hp : p x = true) (h' : ∀ (j : Nat) (y : α), j < k → xs[j]? = some y → p y = false) : (xs.take (k + 1)).filter (fun x => !p x) = xs.take k := by
  rw [filter_at h, hp]
  simp only [if_true, List.append_nil]
  refine List.filter_eq_self.2 fun y hy => ?_
  obtain ⟨j, hj, e⟩ := List.getElem_of_mem hy
  simp at hj e
  rw [h' j y (by omega) (by rw [← e]; exact List.getElem?_eq_getElem (by omega))]; rfl
end Go.Proofs.YtglddnkpccgchaaDoor
