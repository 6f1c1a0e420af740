/- Contracts and plain laws, part 2, for the statement's proof. -/
import Derived.Test.YtifbffianbgeaaaGreatPkChgLaw1
import Derived.BigRegion
import Derived.Laws.BytesArg
import Derived.WalkLawsBesides
import Derived.Deep.AppendLies
import Derived.Lib.SliceRun
import Derived.Deep.DeepCutAuto
import Derived.Deep.RegionLaw
namespace Go.Proofs.YtifbffianbgeaaaGreat
open Go.RowKit
set_option linter.unusedVariables false
set_option linter.unusedSimpArgs false
structure Within (lo hi : Nat) (w w' : World) : Prop where
  os : w'.os = w.os
  tape : w'.tape = w.tape
  output : w'.output = w.output
  size : w.heap.size ≤ w'.heap.size
  block : ∀ k, k < w.heap.size → (k < lo ∨ hi ≤ k) → w'.heap[k]? = w.heap[k]?
section
variable {lo hi : Nat} {a w w' : World}
theorem Within.refl (lo hi : Nat) (w : World) : Within lo hi w w := ⟨rfl, rfl, rfl, Nat.le_refl _, fun _ _ _ => rfl⟩
theorem Within.set (h : Within lo hi a w) (g o : Nat) (v : Value) (h1 : lo ≤ g) (h2 : g < hi) : Within lo hi a (w.setCell ⟨g, o, none⟩ v) :=
  ⟨h.os, h.tape, h.output, by simp [World.setCell]; exact h.size, fun k hk hk' => (Below.heap_setCell w ⟨g, o, none⟩ v k (by simp; omega)).trans (h.block k hk hk')⟩
theorem Within.new (h : Within lo hi a w) (g o : Nat) (v : Value) (h1 : a.heap.size ≤ g) : Within lo hi a (w.setCell ⟨g, o, none⟩ v) :=
  ⟨h.os, h.tape, h.output, by simp [World.setCell]; exact h.size, fun k hk hk' => (Below.heap_setCell w ⟨g, o, none⟩ v k (by simp; omega)).trans (h.block k hk hk')⟩
theorem Within.alloc (h : Within lo hi a w) (o : Obj) : Within lo hi a (w.alloc o) :=
  ⟨h.os, h.tape, h.output, by have := h.size; simp; omega, fun k hk hk' => (Below.heap_alloc w o k (by have := h.size; omega)).trans (h.block k hk hk')⟩
theorem Within.drewN (h : Within lo hi a w) (n : Nat) : Within lo hi a (w.drewN n) := ⟨h.os, h.tape, h.output, h.size, h.block⟩
theorem Within.on (h : Within lo hi a w) (h' : Within lo hi w w') : Within lo hi a w' :=
  ⟨h'.os.trans h.os, h'.tape.trans h.tape, h'.output.trans h.output, Nat.le_trans h.size h'.size, fun k hk hk' => (h'.block k (Nat.lt_of_lt_of_le hk h.size) hk').trans (h.block k hk hk')⟩
theorem Within.blk {f : Nat} {cs : Array Value} {T : TypeId} (h : Within lo hi w w') (hf : Blk w f cs T) (hne : f < lo ∨ hi ≤ f) : Blk w' f cs T := (h.block f hf.lt hne).trans hf
theorem Within.below (h : Within lo hi w w') (hb : Below a.heap.size a w) (hl : a.heap.size ≤ lo) : Below a.heap.size a w' :=
  hb.trans ⟨h.os, h.tape, h.output, h.size, fun k hk => h.block k (Nat.lt_of_lt_of_le hk hb.size) (.inl (by omega))⟩
def OwnR (w : World) (lo hi : Nat) (sv : Value) (zs : List Int) : Prop :=
  (∃ a c, sv = .slice a 0 c ∧ zs = []) ∨ ∃ g cap, ∃ cs : Array Value, sv = .slice (some ⟨g, 0, none⟩) zs.length cap ∧ lo ≤ g ∧ g < hi ∧ zs.length ≤ cap ∧ cap ≤ maxLen ∧ Blk w g cs 2 ∧ ∀ (i : Nat) (x : Int), zs[i]? = some x → cs[i]? = some (Value.int .i64 x)
variable {sv : Value} {zs : List Int}
theorem OwnI.r (h : OwnI w lo sv zs) : OwnR w lo w.heap.size sv zs := by
  rcases h with h | ⟨g, cap, cs, h1, h2, h3, h4, h5, h6⟩
  · exact .inl h
  · exact .inr ⟨g, cap, cs, h1, h2, h5.lt, h3, h4, h5, h6⟩
theorem IBlk.r {g : Nat} (h : IBlk w g zs) (hm : zs.length ≤ 9223372036854775807) : OwnR w g (g + 1) (.slice (some ⟨g, 0, none⟩) zs.length zs.length) zs := by
  obtain ⟨cs, h1, h2, h3⟩ := h
  exact .inr ⟨g, _, cs, rfl, Nat.le_refl _, Nat.lt_succ_self _, Nat.le_refl _, by unfold maxLen; omega, h1, h3⟩
theorem OwnR.by (hb : Below w.heap.size w w') (h : OwnR w lo hi sv zs) : OwnR w' lo hi sv zs := by
  rcases h with h | ⟨g, cap, cs, h1, h2, h2', h3, h4, h5, h6⟩
  · exact .inl h
  · exact .inr ⟨g, cap, cs, h1, h2, h2', h3, h4, Blk.by hb h5, h6⟩
theorem OwnR.past {lo' hi' : Nat} (hb : Within lo' hi' w w') (h : OwnR w lo hi sv zs) (hd : hi ≤ lo' ∨ hi' ≤ lo) : OwnR w' lo hi sv zs := by
  rcases h with h | ⟨g, cap, cs, h1, h2, h2', h3, h4, h5, h6⟩
  · exact .inl h
  · exact .inr ⟨g, cap, cs, h1, h2, h2', h3, h4, hb.blk h5 (by omega), h6⟩
theorem OwnR.sl (h : OwnR w lo hi sv zs) : IntSl w sv zs := by
  rcases h with h | ⟨g, cap, cs, h1, h2, h2', h3, h4, h5, h6⟩
  · exact .inl h
  · exact .inr ⟨g, 0, cap, h1, h3, h4, fun i x hx => by rw [Nat.zero_add, h5.cell]; exact h6 i x hx⟩
end
/- The reference's NormalizeDevice: one contract. -/
theorem pinc_cases (kind : Int) (h : 0 < pinc kind) : pinc kind = 3 ∨ pinc kind = 2 := by
  unfold pinc at *
  (repeat' split) <;> simp_all
theorem length_normz (kind : Int) (zs : List Int) : (normz kind zs).length = zs.length := by
  unfold normz
  split
  · unfold lastTwo; split <;> simp
  · rfl
theorem normz_no {kind : Int} {zs : List Int} (h : ¬ (0 < pinc kind ∧ (zs.length : Int) = pinc kind)) : normz kind zs = zs := by
  unfold normz; rw [if_neg h]
theorem normz_yes {kind : Int} {zs : List Int} (h : 0 < pinc kind ∧ (zs.length : Int) = pinc kind) : (∃ p q, zs = [p, q] ∧ pinc kind = 2 ∧ normz kind zs = [min p q, max p q]) ∨ ∃ r p q, zs = [r, p, q] ∧ pinc kind = 3 ∧ normz kind zs = [r, min p q, max p q] := by
  have e : normz kind zs = lastTwo zs := by unfold normz; rw [if_pos h]
  rw [e]
  rcases pinc_cases kind h.1 with h3 | h2
  · right
    rw [h3] at h
    match zs, h with
    | [r, p, q], _ => exact ⟨r, p, q, rfl, h3, rfl⟩
    | [], h => simp at h
    | [_], h => simp at h
    | [_, _], h => simp at h
    | _ :: _ :: _ :: _ :: _, h => simp at h; omega
  · left
    rw [h2] at h
    match zs, h with
    | [p, q], _ => exact ⟨p, q, rfl, h2, rfl⟩
    | [], h => simp at h
    | [_], h => simp at h
    | _ :: _ :: _ :: _, h => simp at h; omega
def Dr (w w' : World) : Prop := ∃ n, w' = w.drewN n
theorem Dr.refl (w : World) : Dr w w := ⟨0, rfl⟩
theorem Dr.drewN {w w' : World} (h : Dr w w') (m : Nat) : Dr w (w'.drewN m) := by obtain ⟨n, rfl⟩ := h; exact ⟨n + m, World.drewN_drewN _ _ _⟩
theorem Dr.cell {w w' : World} (h : Dr w w') (p : Addr) : w'.cell? p = w.cell? p := by obtain ⟨n, rfl⟩ := h; rfl
theorem Dr.out {w w' : World} (h : Dr w w') : ∃ n, w' = w.drewN n := h
def sgn (a b : Int) : Int := if a < b then -1 else if b < a then 1 else 0
def lcmp : List Int → List Int → Int
  | [], [] => 0
  | [], _ :: _ => -1
  | _ :: _, [] => 1
  | a :: r, b :: s => if sgn a b = 0 then lcmp r s else sgn a b
def or2 (a b : Int) : Int := if a = 0 then b else a
def devcmp (k1 k2 : Int) (p1 p2 : List Int) (w1 w2 l1 l2 : Int) : Int := or2 (sgn k1 k2) (or2 (lcmp p1 p2) (or2 (sgn w1 w2) (sgn l1 l2)))
theorem sgn_lt {a b : Int} (h : a < b) : sgn a b = -1 := by simp [sgn, h]
theorem sgn_gt {a b : Int} (h : b < a) : sgn a b = 1 := by
  have : ¬ a < b := by omega
  simp [sgn, h, this]
theorem sgn_eq {a b : Int} (h : a = b) : sgn a b = 0 := by subst h; simp [sgn]
theorem drop_of {l : List Int} {k : Nat} {x : Int} (h : l[k]? = some x) : l.drop k = x :: l.drop (k + 1) := by
  obtain ⟨hlt, e⟩ := List.getElem?_eq_some_iff.1 h
  rw [List.drop_eq_getElem_cons hlt, e]
theorem lcmp_step {a b : List Int} {k : Nat} {x y : Int} (hx : a[k]? = some x) (hy : b[k]? = some y) : lcmp (a.drop k) (b.drop k) = if sgn x y = 0 then lcmp (a.drop (k + 1)) (b.drop (k + 1)) else sgn x y := by
  rw [drop_of hx, drop_of hy]; rfl
theorem lcmp_end1 {a b : List Int} {k : Nat} (ha : a.length ≤ k) : lcmp (a.drop k) (b.drop k) = if k < b.length then -1 else 0 := by
  rw [List.drop_eq_nil_of_le ha]
  split
  · rename_i h
    rw [List.drop_eq_getElem_cons h]; rfl
  · rw [List.drop_eq_nil_of_le (by omega)]; rfl
theorem lcmp_end2 {a b : List Int} {k : Nat} (ha : k < a.length) (hb : b.length ≤ k) : lcmp (a.drop k) (b.drop k) = 1 := by
  rw [List.drop_eq_nil_of_le hb, List.drop_eq_getElem_cons ha]; rfl
theorem IntSl.cells {w : World} {a : Option Addr} {n c : Nat} {zs : List Int} (h : IntSl w (.slice a n c) zs) : n = zs.length ∧ ∀ (i : Nat) (x : Int), zs[i]? = some x → ∃ b off, a = some ⟨b, off, none⟩ ∧ w.cell? ⟨b, off + i, none⟩ = some (.int .i64 x) := by
  rcases h with ⟨_, _, e, rfl⟩ | ⟨b, off, cap, e, h2, h3, h4⟩
  · simp at e
    exact ⟨e.2.1, by simp⟩
  · simp at e
    exact ⟨e.2.1, fun i x hx => ⟨b, off, e.1, h4 i x hx⟩⟩
theorem cmpCompare_any (a b : Int) (w : World) :
    Calls Tryz.prog 113 #[.int .i64 a, .int .i64 b] w fun e w' => e = .returned (.int .i64 (sgn a b)) ∧ w = w' := by
  by_cases h1 : a < b
  · rw [sgn_lt h1]
    go_enter Tryz.func113, Tryz.ntmps113
    go_wp2
    go_ret
    exact ⟨rfl, rfl⟩
  · by_cases h2 : b < a
    · rw [sgn_gt h2]
      go_enter Tryz.func113, Tryz.ntmps113
      go_wp2
      go_ret
      exact ⟨rfl, rfl⟩
    · rw [sgn_eq (by omega)]
      go_enter Tryz.func113, Tryz.ntmps113
      go_wp2
      go_ret
      exact ⟨rfl, rfl⟩
set_option maxRecDepth 100000 in
set_option maxHeartbeats 1000000 in
theorem slicesCompare_any (s1 s2 : Value) (xs ys : List Int) (w : World) (h : IntSl w s1 xs) (h' : IntSl w s2 ys) :
    Calls Tryz.prog 114 #[s1, s2] w fun e w' => e = .returned (.int .i64 (lcmp xs ys)) ∧ ∃ n, w' = w.drewN n := by
  have hl1 := h.le
  have hl2 := h'.le
  obtain ⟨a, c, rfl⟩ := h.len
  obtain ⟨a', c', rfl⟩ := h'.len
  have HC := Lib.hid h.cells.2
  have HC' := Lib.hid h'.cells.2
  clear h h'
  obtain ⟨r, hr⟩ : ∃ r, lcmp xs ys = r := ⟨_, rfl⟩
  rw [hr]
  go_enter Tryz.func114, Tryz.ntmps114
  go_wp2
  go_loopw [11] (fun i wr => ∃ k : Nat, k ≤ xs.length ∧ k ≤ ys.length ∧ i = .int .i64 k ∧ Dr w wr ∧ lcmp (xs.drop k) (ys.drop k) = r) (fun i _ => xs.length - (intOf i).toNat)
  case atStart => exact ⟨0, Nat.zero_le _, Nat.zero_le _, rfl, Dr.refl _, by simpa using hr⟩
  case round =>
    obtain ⟨k, hk, hk', rfl, hdr, he⟩ := hrel
    have HE := Lib.hid he
    clear he hr
    by_cases h1 : k < xs.length
    · obtain ⟨x, hx⟩ : ∃ x, xs[k]? = some x := ⟨xs[k], List.getElem?_eq_getElem h1⟩
      obtain ⟨b, off, rfl, c1⟩ := HC.out k x hx
      rw [← hdr.cell] at c1
      have i1 : (0 : Int) ≤ (k : Int) := by omega
      have i2 : (k : Int) < (xs.length : Int) := by omega
      by_cases h2 : k < ys.length
      · obtain ⟨y, hy⟩ : ∃ y, ys[k]? = some y := ⟨ys[k], List.getElem?_eq_getElem h2⟩
        obtain ⟨b', off', rfl, c2⟩ := HC'.out k y hy
        rw [← hdr.cell] at c2
        have HT := Lib.hid (lcmp_step hx hy)
        clear hx hy
        obtain ⟨z, hz⟩ : ∃ z, sgn x y = z := ⟨_, rfl⟩
        have hcall := fun w => cmpCompare_any x y w
        rw [hz] at hcall
        have HS := Lib.hid hcall
        have HZ := Lib.hid hz
        clear hcall hz
        have i3 : (k : Int) < (ys.length : Int) := by omega
        by_cases h0 : z = 0
        · subst h0
          go_wp2_with (go_at_call 113; refine (HS.out _).mono ?_; rintro e w' ⟨rfl, rfl⟩)
          exact ⟨⟨k + 1, by omega, by omega, by go_num, by first | exact hdr | exact hdr.drewN _, by rw [← HE.out, HT.out, if_pos HZ.out]⟩, by simp [intOf]; omega⟩
        · have hz1 : (z == 0) = false := by simpa using h0
          have hz2 : (z != 0) = true := by simpa using h0
          go_wp2_with (go_at_call 113; refine (HS.out _).mono ?_; rintro e w' ⟨rfl, rfl⟩)
          go_ret
          exact ⟨ret_i64 (by rw [← HE.out, HT.out, if_neg (by rw [HZ.out]; exact h0), HZ.out]), by first | exact hdr.out | exact (hdr.drewN _).out⟩
      · have hle : ys.length ≤ k := by omega
        have HT := Lib.hid (lcmp_end2 (b := ys) h1 hle)
        clear hx
        go_wp2
        go_ret
        exact ⟨ret_i64 (by rw [← HE.out, HT.out]), by first | exact hdr.out | exact (hdr.drewN _).out⟩
    · have hle : xs.length ≤ k := by omega
      have HT := Lib.hid (lcmp_end1 (b := ys) hle)
      have hkx : k = xs.length := by omega
      subst hkx
      by_cases h2 : xs.length < ys.length
      · go_wp2
        go_ret
        exact ⟨ret_i64 (by rw [← HE.out, HT.out, if_pos h2]), by first | exact hdr.out | exact (hdr.drewN _).out⟩
      · go_wp2
        go_ret
        exact ⟨ret_i64 (by rw [← HE.out, HT.out, if_neg h2]), by first | exact hdr.out | exact (hdr.drewN _).out⟩
theorem cmpOr_any (g : Nat) (a b c d : Int) (w : World) (h : Blk w g #[.int .i64 a, .int .i64 b, .int .i64 c, .int .i64 d] 3) :
    Calls Tryz.prog 112 #[.slice (some ⟨g, 0, none⟩) 4 4] w fun e w' => e = .returned (.int .i64 (or2 a (or2 b (or2 c d)))) ∧ w = w' := by
  obtain ⟨r, hr⟩ : ∃ r, or2 a (or2 b (or2 c d)) = r := ⟨_, rfl⟩
  rw [hr]
  have HR := Lib.hid hr
  clear hr
  have hc := h.cell
  by_cases h1 : a = 0
  · have e1 : (a == 0) = true := by simpa using h1
    have f1 : (a != 0) = false := by simpa using h1
    subst h1
    by_cases h2 : b = 0
    · subst h2
      by_cases h3 : c = 0
      · subst h3
        by_cases h4 : d = 0
        · subst h4
          go_enter Tryz.func112, Tryz.ntmps112
          go_wp2
          refine wp_loop_rounds 5 ?_
          repeat any_goals (rw [rounds_succ]; go_wp2)
          go_ret
          exact ⟨ret_i64 (by rw [← HR.out]; simp [or2]), rfl⟩
        · have f4 : (d != 0) = true := by simpa using h4
          have e4 : (d == 0) = false := by simpa using h4
          go_enter Tryz.func112, Tryz.ntmps112
          go_wp2
          refine wp_loop_rounds 5 ?_
          repeat any_goals (rw [rounds_succ]; go_wp2)
          go_ret
          exact ⟨ret_i64 (by rw [← HR.out]; simp [or2]), rfl⟩
      · have f3 : (c != 0) = true := by simpa using h3
        have e3 : (c == 0) = false := by simpa using h3
        go_enter Tryz.func112, Tryz.ntmps112
        go_wp2
        refine wp_loop_rounds 5 ?_
        repeat any_goals (rw [rounds_succ]; go_wp2)
        go_ret
        exact ⟨ret_i64 (by rw [← HR.out]; simp [or2, h3]), rfl⟩
    · have f2 : (b != 0) = true := by simpa using h2
      have e2 : (b == 0) = false := by simpa using h2
      go_enter Tryz.func112, Tryz.ntmps112
      go_wp2
      refine wp_loop_rounds 5 ?_
      repeat any_goals (rw [rounds_succ]; go_wp2)
      go_ret
      exact ⟨ret_i64 (by rw [← HR.out]; simp [or2, h2]), rfl⟩
  · have f1 : (a != 0) = true := by simpa using h1
    have e1 : (a == 0) = false := by simpa using h1
    go_enter Tryz.func112, Tryz.ntmps112
    go_wp2
    refine wp_loop_rounds 5 ?_
    repeat any_goals (rw [rounds_succ]; go_wp2)
    go_ret
    exact ⟨ret_i64 (by rw [← HR.out]; simp [or2, h1]), rfl⟩
/- Contracts of the functions that compare two devices. -/
theorem or2_ne {a b : Int} (h : a ≠ 0) : or2 a b = a := by simp [or2, h]
theorem or2_z (b : Int) : or2 0 b = b := by simp [or2]
set_option maxRecDepth 100000 in
set_option maxHeartbeats 2000000 in
theorem compareDevices_any (k1 w1 l1 k2 w2 l2 : Int) (s1 s2 : Value) (xs ys : List Int) (w : World) (h : IntSl w s1 xs) (h' : IntSl w s2 ys) :
    Calls Tryz.prog 62 #[.agg #[.int .i64 k1, s1, .int .i64 w1, .int .i64 l1], .agg #[.int .i64 k2, s2, .int .i64 w2, .int .i64 l2]] w fun e w' => e = .returned (.int .i64 (devcmp k1 k2 xs ys w1 w2 l1 l2)) ∧ Below w.heap.size w w' := by
  obtain ⟨r, hr⟩ : ∃ r, devcmp k1 k2 xs ys w1 w2 l1 l2 = r := ⟨_, rfl⟩
  rw [hr]
  unfold devcmp at hr
  have hw := (((Below.refl _ w).alloc (Nat.le_refl _) (.cells #[.int .i64 k1, s1, .int .i64 w1, .int .i64 l1] 62)).alloc (by simp) (.cells #[.int .i64 k2, s2, .int .i64 w2, .int .i64 l2] 62))
  have h1 := h.by hw
  have h2 := h'.by hw
  obtain ⟨a, c, rfl⟩ := h.len
  obtain ⟨a', c', rfl⟩ := h'.len
  clear h h' hw
  have g1 := fun w => cmpCompare_any k1 k2 w
  have g2 := fun w h h' => slicesCompare_any (.slice a xs.length c) (.slice a' ys.length c') xs ys w h h'
  have g3 := fun w => cmpCompare_any w1 w2 w
  have g4 := fun w => cmpCompare_any l1 l2 w
  generalize sgn k1 k2 = z1 at *
  generalize lcmp xs ys = z2 at *
  generalize sgn w1 w2 = z3 at *
  generalize sgn l1 l2 = z4 at *
  have HR := Lib.hid hr
  have H1 := Lib.hid g1
  have H2 := Lib.hid g2
  have H3 := Lib.hid g3
  have H4 := Lib.hid g4
  clear hr g1 g2 g3 g4
  go_enter Tryz.func62, Tryz.ntmps62
  go_wp2_with fail
  go_region_held3 (fun w' => (Blk w' (w.heap.size) #[.int .i64 k1, .slice a xs.length c, .int .i64 w1, .int .i64 l1] 62 ∧ ∀ o, w'.cell? ⟨w.heap.size, o, none⟩ = (#[.int .i64 k1, .slice a xs.length c, .int .i64 w1, .int .i64 l1] : Array Value)[o]?) ∧ (Blk w' (w.heap.size + 1) #[.int .i64 k2, .slice a' ys.length c', .int .i64 w2, .int .i64 l2] 62 ∧ ∀ o, w'.cell? ⟨w.heap.size + 1, o, none⟩ = (#[.int .i64 k2, .slice a' ys.length c', .int .i64 w2, .int .i64 l2] : Array Value)[o]?) ∧ Below w.heap.size w w') (((try (obtain ⟨⟨hS0, _⟩, ⟨hS1, _⟩, hSB⟩ := hHeld)); refine ⟨Blk.both ?_, Blk.both ?_, ?_⟩ <;> first | ((repeat (first | (with_reducible assumption) | (with_reducible refine Blk.drewN ?_ _) | (with_reducible refine Blk.drew ?_) | ((with_reducible refine Blk.new _ ?_); focus (first | omega | (simp; done) | (simp; omega))) | (with_reducible refine Blk.past ?_ _) | ((with_reducible refine Blk.apart ?_ _ _ _ ?_); rotate_left; focus (first | omega | (simp; done) | (simp; omega))) | (with_reducible refine Blk.by (by assumption) ?_))); done) | ((repeat (first | (with_reducible exact Below.refl _ _) | (with_reducible refine below_drewN ?_ _) | (with_reducible refine Below.drew ?_) | (with_reducible refine below_al ?_ _) | (with_reducible refine below_on (by assumption) ?_) | ((with_reducible refine Below.setCell ?_ ?_ _); rotate_left; focus (first | omega | (simp; done) | (simp; omega))) | (with_reducible assumption))); done)))
    (first | (go_at_call_of 113 (Value.int .i64 k1); refine (H1.out _).mono ?_; rintro e w' ⟨rfl, rfl⟩) | (go_at_call_of 113 (Value.int .i64 w1); refine (H3.out _).mono ?_; rintro e w' ⟨rfl, rfl⟩) | (go_at_call_of 113 (Value.int .i64 l1); refine (H4.out _).mono ?_; rintro e w' ⟨rfl, rfl⟩) | (go_at_call 114; refine (H2.out _ (h1.by (below_of_drewN _ 1)) (h2.by (below_of_drewN _ 1))).mono ?_; rintro e w' ⟨rfl, m, rfl⟩) | (go_at_call 112; refine (cmpOr_any _ z1 z2 z3 z4 _ (Blk.new _ (by simp))).mono ?_; rintro e w' ⟨rfl, rfl⟩))
  all_goals go_wp2
  all_goals go_ret
  exact ⟨ret_i64 HR.out, blwT⟩
/- Parallel devices, devices in series, first pairs: plain. -/
def curP : List Int → Int
  | [p, _] => p
  | [_, p, _] => p
  | _ => 0
def curQ : List Int → Int
  | [_, q] => q
  | [_, _, q] => q
  | _ => 0
def gateOf : List Int → Int
  | [g, _, _] => g
  | _ => 0
def Shp (x : Dv) : Prop := (x.kind = 2 ∧ ∃ p q, x.pins = [p, q]) ∨ ((x.kind = 0 ∨ x.kind = 1) ∧ ∃ g p q, x.pins = [g, p, q])
theorem shp_of {nets : Int} {x : Dv} (h : dvB nets x = true) : Shp x := by
  obtain ⟨h1, h2, _⟩ := dvB_all h
  have hk := inB_iff.1 h1
  by_cases h2' : x.kind = 2
  · left
    refine ⟨h2', ?_⟩
    simp only [pinsOf, h2', if_pos] at h2
    match hp : x.pins, h2 with
    | [p, q], _ => exact ⟨p, q, rfl⟩
  · right
    refine ⟨by omega, ?_⟩
    simp only [pinsOf, if_neg h2'] at h2
    match hp : x.pins, h2 with
    | [g, p, q], _ => exact ⟨g, p, q, rfl⟩
theorem lcmp_zero : ∀ (a b : List Int), lcmp a b = 0 ↔ a = b
  | [], [] => by simp [lcmp]
  | [], _ :: _ => by simp [lcmp]
  | _ :: _, [] => by simp [lcmp]
  | a :: r, b :: s => by
    have ih := lcmp_zero r s
    unfold lcmp
    by_cases h : sgn a b = 0
    · rw [if_pos h, ih]
      have hab : a = b := by
        unfold sgn at h
        split at h
        · omega
        · split at h
          · omega
          · omega
      simp [hab]
    · rw [if_neg h]
      have hab : a ≠ b := fun e => h (sgn_eq e)
      simp [hab, h]
/- Current pins, gates: contracts. -/
theorem IntSl.two {w : World} {sv : Value} {p q : Int} (h : IntSl w sv [p, q]) : ∃ b off cap, sv = .slice (some ⟨b, off, none⟩) 2 cap ∧ w.cell? ⟨b, off, none⟩ = some (.int .i64 p) ∧ w.cell? ⟨b, off + 1, none⟩ = some (.int .i64 q) ∧ b < w.heap.size := by
  rcases h with ⟨_, _, _, h2⟩ | ⟨b, off, cap, hsv, h2, h3, h4⟩
  · simp at h2
  simp only [List.length_cons, List.length_nil, Nat.zero_add, Nat.reduceAdd] at hsv
  have hp : w.cell? ⟨b, off, none⟩ = some (.int .i64 p) := by have := h4 0 p rfl; simpa using this
  have hq : w.cell? ⟨b, off + 1, none⟩ = some (.int .i64 q) := by have := h4 1 q rfl; simpa using this
  refine ⟨b, off, cap, hsv, hp, hq, ?_⟩
  rcases Nat.lt_or_ge b w.heap.size with h' | h'
  · exact h'
  · simp [World.cell?, Array.getElem?_eq_none h'] at hp
theorem IntSl.three {w : World} {sv : Value} {g p q : Int} (h : IntSl w sv [g, p, q]) : ∃ b off cap, sv = .slice (some ⟨b, off, none⟩) 3 cap ∧ w.cell? ⟨b, off, none⟩ = some (.int .i64 g) ∧ w.cell? ⟨b, off + 1, none⟩ = some (.int .i64 p) ∧ w.cell? ⟨b, off + 2, none⟩ = some (.int .i64 q) ∧ b < w.heap.size := by
  rcases h with ⟨_, _, _, h2⟩ | ⟨b, off, cap, hsv, h2, h3, h4⟩
  · simp at h2
  simp only [List.length_cons, List.length_nil, Nat.zero_add, Nat.reduceAdd] at hsv
  have hg : w.cell? ⟨b, off, none⟩ = some (.int .i64 g) := by have := h4 0 g rfl; simpa using this
  have hp : w.cell? ⟨b, off + 1, none⟩ = some (.int .i64 p) := by have := h4 1 p rfl; simpa using this
  have hq : w.cell? ⟨b, off + 2, none⟩ = some (.int .i64 q) := by have := h4 2 q rfl; simpa using this
  refine ⟨b, off, cap, hsv, hg, hp, hq, ?_⟩
  rcases Nat.lt_or_ge b w.heap.size with h' | h'
  · exact h'
  · simp [World.cell?, Array.getElem?_eq_none h'] at hp
set_option maxRecDepth 100000 in
set_option maxHeartbeats 1000000 in
theorem currentPins_any (x : Dv) (sv : Value) (w : World) (h : IntSl w sv x.pins) (hs : Shp x) :
    Calls Tryz.prog 175 #[.agg #[.int .i64 x.kind, sv, .int .i64 x.wd, .int .i64 x.len]] w fun e w' => e = .returned (.tuple #[.int .i64 (curP x.pins), .int .i64 (curQ x.pins)]) ∧ Below w.heap.size w w' := by
  obtain ⟨kind, pins, wd, len⟩ := x
  dsimp only at h ⊢
  rcases hs with ⟨_, p, q, hp⟩ | ⟨_, g, p, q, hp⟩
  · dsimp only at hp; subst hp
    obtain ⟨b, off, cap, rfl, c0, c1, hb⟩ := h.two
    clear h
    simp only [curP, curQ]
    go_enter Tryz.func175, Tryz.ntmps175
    go_wp2
    go_quiet (fail)
    go_wp2
    go_ret2
    exact ⟨rfl, blwT⟩
  · dsimp only at hp; subst hp
    obtain ⟨b, off, cap, rfl, c0, c1, c2, hb⟩ := h.three
    clear h
    simp only [curP, curQ]
    go_enter Tryz.func175, Tryz.ntmps175
    go_wp2
    go_quiet (fail)
    go_wp2
    go_ret2
    exact ⟨rfl, blwT⟩
/- Parallel devices: contracts. -/
/- Slices of devices and of ports in memory of the call's own. -/
def OwnDs (w : World) (lo hi : Nat) (sv : Value) (ds : List Dv) : Prop :=
  (∃ a c, sv = .slice a 0 c ∧ ds = []) ∨ ∃ (g cap : Nat) (cs : Array Value) (f : Nat → Nat), sv = .slice (some ⟨g, 0, none⟩) ds.length cap ∧ (lo ≤ g ∧ g < hi) ∧ ds.length ≤ cap ∧ cap ≤ maxLen ∧ Blk w g cs 62 ∧
    (∀ (i : Nat) (x : Dv), ds[i]? = some x → (∃ pv, Cs4 cs i (.int .i64 x.kind) pv (.int .i64 x.wd) (.int .i64 x.len) ∧ OwnR w (f i) (f i + 1) pv x.pins) ∧ (lo ≤ f i ∧ f i < hi ∧ f i ≠ g)) ∧ (∀ i j, i < ds.length → j < ds.length → i ≠ j → f i ≠ f j)
def OwnPs (w : World) (lo hi : Nat) (sv : Value) (ps : List Pt) : Prop :=
  (∃ a c, sv = .slice a 0 c ∧ ps = []) ∨ ∃ (g cap : Nat) (cs : Array Value), sv = .slice (some ⟨g, 0, none⟩) ps.length cap ∧ (lo ≤ g ∧ g < hi) ∧ ps.length ≤ cap ∧ cap ≤ maxLen ∧ Blk w g cs 98 ∧
    (∀ (i : Nat) (x : Pt), ps[i]? = some x → Cs2 cs i (.string x.name) (.int .i64 x.net))
section
variable {w w' : World} {lo hi lo' hi' : Nat} {sv : Value} {ds : List Dv} {ps : List Pt}
theorem OwnDs.by (hb : Below w.heap.size w w') (h : OwnDs w lo hi sv ds) : OwnDs w' lo hi sv ds := by
  rcases h with h | ⟨g, cap, cs, f, h1, h2, h3, h4, h5, h6, h7⟩
  · exact .inl h
  · refine .inr ⟨g, cap, cs, f, h1, h2, h3, h4, Blk.by hb h5, fun i x hx => ?_, h7⟩
    obtain ⟨⟨pv, a, b⟩, c⟩ := h6 i x hx
    exact ⟨⟨pv, a, OwnR.by hb b⟩, c⟩
theorem OwnPs.by (hb : Below w.heap.size w w') (h : OwnPs w lo hi sv ps) : OwnPs w' lo hi sv ps := by
  rcases h with h | ⟨g, cap, cs, h1, h2, h3, h4, h5, h6⟩
  · exact .inl h
  · exact .inr ⟨g, cap, cs, h1, h2, h3, h4, Blk.by hb h5, h6⟩
theorem OwnDs.past (hb : Within lo' hi' w w') (h : OwnDs w lo hi sv ds) (hd : hi ≤ lo' ∨ hi' ≤ lo) : OwnDs w' lo hi sv ds := by
  rcases h with h | ⟨g, cap, cs, f, h1, h2, h3, h4, h5, h6, h7⟩
  · exact .inl h
  · refine .inr ⟨g, cap, cs, f, h1, h2, h3, h4, hb.blk h5 (by omega), fun i x hx => ?_, h7⟩
    obtain ⟨⟨pv, a, b⟩, c⟩ := h6 i x hx
    exact ⟨⟨pv, a, OwnR.past hb b (by omega)⟩, c⟩
theorem OwnPs.past (hb : Within lo' hi' w w') (h : OwnPs w lo hi sv ps) (hd : hi ≤ lo' ∨ hi' ≤ lo) : OwnPs w' lo hi sv ps := by
  rcases h with h | ⟨g, cap, cs, h1, h2, h3, h4, h5, h6⟩
  · exact .inl h
  · exact .inr ⟨g, cap, cs, h1, h2, h3, h4, hb.blk h5 (by omega), h6⟩
theorem OwnDs.wide (h : OwnDs w lo hi sv ds) (h1 : lo' ≤ lo) (h2 : hi ≤ hi') : OwnDs w lo' hi' sv ds := by
  rcases h with h | ⟨g, cap, cs, f, e1, e2, e3, e4, e5, e6, e7⟩
  · exact .inl h
  · refine .inr ⟨g, cap, cs, f, e1, by omega, e3, e4, e5, fun i x hx => ?_, e7⟩
    obtain ⟨a, b⟩ := e6 i x hx
    exact ⟨a, by omega⟩
theorem OwnPs.wide (h : OwnPs w lo hi sv ps) (h1 : lo' ≤ lo) (h2 : hi ≤ hi') : OwnPs w lo' hi' sv ps := by
  rcases h with h | ⟨g, cap, cs, e1, e2, e3, e4, e5, e6⟩
  · exact .inl h
  · exact .inr ⟨g, cap, cs, e1, by omega, e3, e4, e5, e6⟩
theorem OwnDs.sl (h : OwnDs w lo hi sv ds) : DvSl w sv ds := by
  rcases h with h | ⟨g, cap, cs, f, h1, h2, h3, h4, h5, h6, h7⟩
  · exact .inl h
  · refine .inr ⟨g, 0, cap, h1, h3, h4, fun i x hx => ?_⟩
    obtain ⟨⟨pv, ⟨e1, e2, e3, e4⟩, b⟩, c⟩ := h6 i x hx
    have hc := h5.cell
    simp only [Nat.zero_add]
    exact ⟨pv, by rw [hc]; exact e1, by rw [hc]; exact e2, by rw [hc]; exact e3, by rw [hc]; exact e4, b.sl⟩
theorem OwnPs.sl (h : OwnPs w lo hi sv ps) : PtSl w sv ps := by
  rcases h with h | ⟨g, cap, cs, h1, h2, h3, h4, h5, h6⟩
  · exact .inl h
  · refine .inr ⟨g, 0, cap, h1, h3, h4, fun i x hx => ?_⟩
    obtain ⟨e1, e2⟩ := h6 i x hx
    have hc := h5.cell
    simp only [Nat.zero_add]
    exact ⟨by rw [hc]; exact e1, by rw [hc]; exact e2⟩
end
/- markDeviceS and heldDeviceS. -/
theorem Within.sub {lo hi lo' hi' : Nat} {w w' : World} (h : Within lo hi w w') (h1 : lo' ≤ lo) (h2 : hi ≤ hi') : Within lo' hi' w w' := ⟨h.os, h.tape, h.output, h.size, fun k hk hk' => h.block k hk (by omega)⟩
/- markPortS and heldPortS. -/
/- toDeviceS, toPortS, toNetlist: with the memory of the call's own; marking netlists. -/
/- Netlists in memory of the call's own; marking them. -/
def OwnNl (w : World) (lo hi : Nat) (v : Value) (x : Nl) : Prop := ∃ s1 s2 l1 h1 l2 h2, v = .agg #[.int .i64 x.nets, s1, s2] ∧ OwnDs w l1 h1 s1 x.ds ∧ OwnPs w l2 h2 s2 x.ps ∧ (lo ≤ l1 ∧ h1 ≤ hi) ∧ (lo ≤ l2 ∧ h2 ≤ hi) ∧ (h1 ≤ l2 ∨ h2 ≤ l1)
section
variable {w w' : World} {lo hi lo' hi' : Nat} {v : Value} {x : Nl}
theorem OwnNl.by (hb : Below w.heap.size w w') (h : OwnNl w lo hi v x) : OwnNl w' lo hi v x := by
  obtain ⟨s1, s2, l1, h1, l2, h2, e, a, b, c⟩ := h; exact ⟨s1, s2, l1, h1, l2, h2, e, a.by hb, b.by hb, c⟩
theorem OwnNl.past (hb : Within lo' hi' w w') (h : OwnNl w lo hi v x) (hd : hi ≤ lo' ∨ hi' ≤ lo) : OwnNl w' lo hi v x := by
  obtain ⟨s1, s2, l1, h1, l2, h2, e, a, b, c, d, f⟩ := h; exact ⟨s1, s2, l1, h1, l2, h2, e, a.past hb (by omega), b.past hb (by omega), c, d, f⟩
theorem OwnNl.wide (h : OwnNl w lo hi v x) (h1 : lo' ≤ lo) (h2 : hi ≤ hi') : OwnNl w lo' hi' v x := by
  obtain ⟨s1, s2, l1, h1, l2, h2, e, a, b, c, d, f⟩ := h; exact ⟨s1, s2, l1, h1, l2, h2, e, a, b, by omega, by omega, f⟩
theorem OwnNl.nl (h : OwnNl w lo hi v x) : NlV w v x := by
  obtain ⟨s1, s2, l1, h1, l2, h2, e, a, b, c⟩ := h; exact ⟨s1, s2, e, a.sl, b.sl⟩
end
theorem Within.off {g o : Nat} {w : World} (v : Value) : Within g (g + 1) w (w.setCell ⟨g, o, none⟩ v) := Within.set (Within.refl g (g + 1) w) g o v (Nat.le_refl _) (by omega)
/- What a netlist's marks come to. -/
/- Netlists of the call's own whose ports' block may lie between the blocks of the devices: marking them. -/
structure WithX (lo hi P : Nat) (w w' : World) : Prop where
  within : Within lo hi w w'
  keep : P < w.heap.size → w'.heap[P]? = w.heap[P]?
section
variable {lo hi P : Nat} {a w w' : World}
theorem WithX.refl (lo hi P : Nat) (w : World) : WithX lo hi P w w := ⟨Within.refl _ _ _, fun _ => rfl⟩
theorem WithX.set (h : WithX lo hi P a w) (g o : Nat) (v : Value) (h1 : lo ≤ g) (h2 : g < hi) (h3 : g ≠ P) : WithX lo hi P a (w.setCell ⟨g, o, none⟩ v) :=
  ⟨h.within.set g o v h1 h2, fun hp => (Below.heap_setCell w ⟨g, o, none⟩ v P (fun e => h3 e.symm)).trans (h.keep hp)⟩
theorem WithX.on (h : WithX lo hi P a w) (h' : WithX lo hi P w w') : WithX lo hi P a w' :=
  ⟨h.within.on h'.within, fun hp => (h'.keep (by have := h.within.size; omega)).trans (h.keep hp)⟩
end
def OwnDsX (w : World) (lo hi P : Nat) (sv : Value) (ds : List Dv) : Prop :=
  (∃ a c, sv = .slice a 0 c ∧ ds = []) ∨ ∃ (g cap : Nat) (cs : Array Value) (f : Nat → Nat), sv = .slice (some ⟨g, 0, none⟩) ds.length cap ∧ ((lo ≤ g ∧ g < hi) ∧ g ≠ P) ∧ ds.length ≤ cap ∧ cap ≤ maxLen ∧ Blk w g cs 62 ∧
    (∀ (i : Nat) (x : Dv), ds[i]? = some x → (∃ pv, Cs4 cs i (.int .i64 x.kind) pv (.int .i64 x.wd) (.int .i64 x.len) ∧ OwnR w (f i) (f i + 1) pv x.pins) ∧ (lo ≤ f i ∧ f i < hi ∧ f i ≠ g ∧ f i ≠ P)) ∧ (∀ i j, i < ds.length → j < ds.length → i ≠ j → f i ≠ f j)
section
variable {w w' : World} {lo hi P lo' hi' : Nat} {sv : Value} {ds : List Dv} {ps : List Pt}
theorem OwnDsX.ods (h : OwnDsX w lo hi P sv ds) : OwnDs w lo hi sv ds := by
  rcases h with h | ⟨g, cap, cs, f, h1, h2, h3, h4, h5, h6, h7⟩
  · exact .inl h
  · exact .inr ⟨g, cap, cs, f, h1, h2.1, h3, h4, h5, fun i x hx => ⟨(h6 i x hx).1, (h6 i x hx).2.1, (h6 i x hx).2.2.1, (h6 i x hx).2.2.2.1⟩, h7⟩
theorem OwnDsX.by (hb : Below w.heap.size w w') (h : OwnDsX w lo hi P sv ds) : OwnDsX w' lo hi P sv ds := by
  rcases h with h | ⟨g, cap, cs, f, h1, h2, h3, h4, h5, h6, h7⟩
  · exact .inl h
  · refine .inr ⟨g, cap, cs, f, h1, h2, h3, h4, Blk.by hb h5, fun i x hx => ?_, h7⟩
    obtain ⟨⟨pv, a, b⟩, c⟩ := h6 i x hx
    exact ⟨⟨pv, a, OwnR.by hb b⟩, c⟩
theorem OwnDsX.past (hb : Within lo' hi' w w') (h : OwnDsX w lo hi P sv ds) (hd : hi ≤ lo' ∨ hi' ≤ lo) : OwnDsX w' lo hi P sv ds := by
  rcases h with h | ⟨g, cap, cs, f, h1, h2, h3, h4, h5, h6, h7⟩
  · exact .inl h
  · refine .inr ⟨g, cap, cs, f, h1, h2, h3, h4, hb.blk h5 (by omega), fun i x hx => ?_, h7⟩
    obtain ⟨⟨pv, a, b⟩, c⟩ := h6 i x hx
    exact ⟨⟨pv, a, OwnR.past hb b (by omega)⟩, c⟩
theorem OwnDsX.off (h : OwnDsX w lo hi P sv ds) (hb : Within P (P + 1) w w') : OwnDsX w' lo hi P sv ds := by
  rcases h with h | ⟨g, cap, cs, f, h1, h2, h3, h4, h5, h6, h7⟩
  · exact .inl h
  · refine .inr ⟨g, cap, cs, f, h1, h2, h3, h4, hb.blk h5 (by omega), fun i x hx => ?_, h7⟩
    obtain ⟨⟨pv, a, b⟩, c⟩ := h6 i x hx
    exact ⟨⟨pv, a, OwnR.past hb b (by omega)⟩, c⟩
theorem OwnDsX.wide (h : OwnDsX w lo hi P sv ds) (h1 : lo' ≤ lo) (h2 : hi ≤ hi') : OwnDsX w lo' hi' P sv ds := by
  rcases h with h | ⟨g, cap, cs, f, e1, e2, e3, e4, e5, e6, e7⟩
  · exact .inl h
  · refine .inr ⟨g, cap, cs, f, e1, by omega, e3, e4, e5, fun i x hx => ?_, e7⟩
    obtain ⟨a, b⟩ := e6 i x hx
    exact ⟨a, by omega⟩
theorem OwnPs.at (h : OwnPs w lo hi sv ps) (hl : lo < hi) : ∃ P, OwnPs w P (P + 1) sv ps ∧ lo ≤ P ∧ P < hi := by
  rcases h with h | ⟨g, cap, cs, h1, h2, h3, h4, h5, h6⟩
  · exact ⟨lo, .inl h, Nat.le_refl _, hl⟩
  · exact ⟨g, .inr ⟨g, cap, cs, h1, by omega, h3, h4, h5, h6⟩, h2.1, h2.2⟩
end
def OwnNlX (w : World) (lo hi : Nat) (v : Value) (x : Nl) : Prop := ∃ s1 s2 P, v = .agg #[.int .i64 x.nets, s1, s2] ∧ OwnDsX w lo hi P s1 x.ds ∧ OwnPs w P (P + 1) s2 x.ps ∧ (lo ≤ P ∧ P < hi)
section
variable {w w' : World} {lo hi lo' hi' : Nat} {v : Value} {x : Nl}
theorem OwnNlX.by (hb : Below w.heap.size w w') (h : OwnNlX w lo hi v x) : OwnNlX w' lo hi v x := by
  obtain ⟨s1, s2, P, e, a, b, c⟩ := h; exact ⟨s1, s2, P, e, a.by hb, b.by hb, c⟩
theorem OwnNlX.past (hb : Within lo' hi' w w') (h : OwnNlX w lo hi v x) (hd : hi ≤ lo' ∨ hi' ≤ lo) : OwnNlX w' lo hi v x := by
  obtain ⟨s1, s2, P, e, a, b, c⟩ := h; exact ⟨s1, s2, P, e, a.past hb hd, b.past hb (by omega), c⟩
theorem OwnNlX.wide (h : OwnNlX w lo hi v x) (h1 : lo' ≤ lo) (h2 : hi ≤ hi') : OwnNlX w lo' hi' v x := by
  obtain ⟨s1, s2, P, e, a, b, c⟩ := h; exact ⟨s1, s2, P, e, a.wide h1 h2, b, by omega⟩
theorem OwnNlX.nl (h : OwnNlX w lo hi v x) : NlV w v x := by
  obtain ⟨s1, s2, P, e, a, b, c⟩ := h; exact ⟨s1, s2, e, a.ods.sl, b.sl⟩
theorem nlZeroX (w : World) (lo hi : Nat) (h : lo < hi) : OwnNlX w lo hi (.agg #[.int .i64 0, .slice none 0 0, .slice none 0 0]) ⟨0, [], []⟩ :=
  ⟨_, _, lo, rfl, .inl ⟨_, _, rfl, rfl⟩, .inl ⟨_, _, rfl, rfl⟩, Nat.le_refl _, h⟩
end
theorem lt_of_cell {w : World} {p : Addr} {v : Value} (h : w.cell? p = some v) : p.block < w.heap.size := by
  rcases Nat.lt_or_ge p.block w.heap.size with h' | h'
  · exact h'
  · simp [World.cell?, Array.getElem?_eq_none h'] at h
set_option maxRecDepth 100000 in
set_option maxHeartbeats 1000000 in
theorem vnClosure_any (x : Dv) (sv : Value) (nets : Int) (B : Nat) (W : World) (hc : W.cell? ⟨B, 0, none⟩ = some (.int .i64 nets)) (hS : IntSl W sv x.pins) (hn : 0 ≤ nets) (hn' : nets ≤ 24) :
    Calls Tryz.prog 90 #[.agg #[.int .i64 x.kind, sv, .int .i64 x.wd, .int .i64 x.len], .pointer (some ⟨B, 0, none⟩)] W fun e w' => e = .returned (.bool (!dvB nets x)) ∧ Below W.heap.size W w' := by
  have HT := Lib.hid (fun w h => validDevice_any x sv nets w h hn hn')
  have hB := lt_of_cell hc
  dsimp only at hB
  obtain ⟨a, c, rfl⟩ := hS.len
  generalize dvB nets x = r at *
  go_enter Tryz.func90, Tryz.ntmps90
  go_wp2_with fail
  refine (HT.out _ (hS.by blwT)).mono ?_
  rintro e w1 ⟨rfl, hb1⟩
  go_wp2
  go_ret
  exact ⟨rfl, blwT⟩
theorem dvs_any (nets : Int) (ds : List Dv) : (ds.any fun d => !dvB nets d) = !(ds.all (dvB nets)) := by
  induction ds with
  | nil => rfl
  | cons x xs ih => simp [ih]
set_option maxRecDepth 100000 in
set_option maxHeartbeats 4000000 in
theorem implNl_any (x : Nl) (v : Value) (w : World) (h : NlV w v x) (hok : ∀ p ∈ x.ps, p.ok) (hnn : Fits x.nets) :
    Calls Tryz.prog 40 #[v] w fun e w' => e = .returned (.bool (nlB x)) ∧ Below w.heap.size w w' := by
  obtain ⟨s1, s2, rfl, hd, hp⟩ := h
  have HNn := Lib.hid (@nlB_nets x)
  have HND := Lib.hid (@nlB_ds x)
  have HNP := Lib.hid (@nlB_ps x)
  have HPT := Lib.hid (fun i => @nlB_pt i x)
  have HEN := Lib.hid (@nlB_pts x)
  obtain ⟨nets, ds, ps⟩ := x
  dsimp only at hd hp hok hnn HNn HND HNP HPT HEN ⊢
  generalize nlB ⟨nets, ds, ps⟩ = r at *
  have hdl : ds.length ≤ maxLen := by
    rcases hd with ⟨_, _, _, h2⟩ | ⟨b, off, cap, h1, h2, h3, _⟩
    · subst h2; simp
    · exact Nat.le_trans h2 h3
  have hpl : ps.length ≤ maxLen := by
    rcases hp with ⟨_, _, _, h2⟩ | ⟨b, off, cap, h1, h2, h3, _⟩
    · subst h2; simp
    · exact Nat.le_trans h2 h3
  unfold maxLen at hdl hpl
  have HD := Lib.hid hd
  have HP := Lib.hid hp
  have hmf : ∀ (fn : Fn) (first cap : Array Value) (w : World), (Instr.makeFunc fn first cap).run Tryz.prog w = .ok (.func fn first cap) w := fun _ _ _ _ => rfl
  obtain ⟨a1, c1, rfl⟩ := hd.sized
  obtain ⟨a2, c2, rfl⟩ := hp.sized
  clear hd hp
  rcases Bool.eq_false_or_eq_true (inB nets 0 24) with hn | hn
  · have hn' := inB_iff.1 hn
    have HN1 := Lib.hid hn
    by_cases h24 : ds.length ≤ 24
    · by_cases h8 : ps.length ≤ 8
      · have HK := Lib.hid hok
        clear hok
        go_enter Tryz.func40, Tryz.ntmps40
        go_wp2_with (go_at_call 87; refine (within_any _ _ _ _).mono ?_; rintro e w' ⟨rfl, rfl⟩)
        go_loopw [24] (fun i wr => ∃ k : Nat, k ≤ ps.length ∧ i = .int .i64 k ∧ Hid (∀ (j : Nat), j < k → ptOk nets ps j = true) ∧ Blk wr w.heap.size #[.int .i64 nets, .slice a1 ds.length c1, .slice a2 ps.length c2] 35 ∧ Below w.heap.size w wr) (fun i _ => ps.length - (intOf i).toNat)
        case atStart => exact ⟨0, Nat.zero_le _, rfl, Lib.hid (by intro j hj; omega), blkT, blwT⟩
        case round =>
          obtain ⟨k, hk, rfl, HI, kN, hb⟩ := hrel
          have cN := kN.cell
          have lN := kN.lt
          by_cases hlt : k < ps.length
          · obtain ⟨x, hx⟩ : ∃ x, ps[k]? = some x := ⟨ps[k], List.getElem?_eq_getElem hlt⟩
            have HX := Lib.hid hx
            have HPS := HP.out
            rcases HPS with ⟨_, _, _, h2⟩ | ⟨b, off, cap, he, h2, h3, h4⟩
            · rw [h2] at hlt; simp at hlt
            obtain ⟨rfl, rfl⟩ : a2 = some ⟨b, off, none⟩ ∧ c2 = cap := by simpa using he
            obtain ⟨p1, p2⟩ := (h4 k x hx).by hb
            have lP := lt_of_cell p1
            dsimp only at lP
            have hsz : x.name.size ≤ 9223372036854775807 := (HK.out x (List.mem_of_getElem? hx)).1
            have i1 : (0 : Int) ≤ (k : Int) := by omega
            have i2 : (k : Int) < (ps.length : Int) := by omega
            clear hx he
            rcases Bool.eq_false_or_eq_true (nameB x.name) with hnm | hnm
            · rcases Bool.eq_false_or_eq_true (inB x.net 0 (nets - 1)) with hin | hin
              · by_cases hk0 : k = 0
                · have HK0 := Lib.hid hk0
                  have hx0 := HX.out
                  rw [hk0] at hx0
                  have HX0 := Lib.hid hx0
                  have hkz : decide (0 < k) = false := by rw [decide_eq_false_iff_not]; omega
                  clear h4 hk0 hx0
                  have HOK := Lib.hid (HK0.out.symm ▸ ptOk_zero HX0.out hnm hin : ptOk nets ps k = true)
                  go_wp2
                  go_quiet ((first | (go_at_call 88; exact Calls.quiet_of_same ((implIsName_any x.name _ hsz).mono fun _ _ h => ⟨h.1, h.2.symm⟩)) | (go_at_call 87; exact Calls.quiet_of_same ((within_any _ _ _ _).mono fun _ _ h => ⟨h.1, h.2.symm⟩))))
                  go_wp2
                  exact ⟨⟨k + 1, by omega, by go_num, Lib.hid (fun i hj => by
                    by_cases e : i = k
                    · subst e; exact HOK.out
                    · exact HI.out i (by omega)), blkT, blwT⟩, by simp [intOf]; omega⟩
                · obtain ⟨j, rfl⟩ : ∃ j, k = j + 1 := ⟨k - 1, by omega⟩
                  obtain ⟨y, hy⟩ : ∃ y, ps[j]? = some y := ⟨ps[j]'(by omega), List.getElem?_eq_getElem (by omega)⟩
                  have HY := Lib.hid hy
                  obtain ⟨q1, q2⟩ := (h4 j y hy).by hb
                  have j1 : (0 : Int) < (j : Int) + 1 := by omega
                  have j2 : (0 : Int) ≤ (j : Int) := by omega
                  have j3 : (j : Int) < (ps.length : Int) := by omega
                  have j4 : (j : Int) + 1 < (ps.length : Int) := by omega
                  clear hy h4
                  rcases Bool.eq_false_or_eq_true (Op.bytesLess y.name.toList x.name.toList) with hls | hls
                  · have HOK := Lib.hid (ptOk_succ HX.out HY.out hnm hin hls)
                    go_wp2
                    go_quiet ((first | (go_at_call 88; exact Calls.quiet_of_same ((implIsName_any x.name _ hsz).mono fun _ _ h => ⟨h.1, h.2.symm⟩)) | (go_at_call 87; exact Calls.quiet_of_same ((within_any _ _ _ _).mono fun _ _ h => ⟨h.1, h.2.symm⟩))))
                    go_wp2
                    exact ⟨⟨(j + 1) + 1, by omega, by go_num, Lib.hid (fun i hj => by
                      by_cases e : i = (j + 1)
                      · subst e; exact HOK.out
                      · exact HI.out i (by omega)), blkT, blwT⟩, by simp [intOf]; omega⟩
                  · have hr := Lib.hid (HPT.out _ hlt (ptOk_lt HX.out HY.out hls))
                    go_wp2
                    go_quiet ((first | (go_at_call 88; exact Calls.quiet_of_same ((implIsName_any x.name _ hsz).mono fun _ _ h => ⟨h.1, h.2.symm⟩)) | (go_at_call 87; exact Calls.quiet_of_same ((within_any _ _ _ _).mono fun _ _ h => ⟨h.1, h.2.symm⟩))))
                    go_wp2
                    go_ret
                    exact ⟨ret_bool hr.out.symm, blwT⟩
              · have hr := Lib.hid (HPT.out _ hlt (ptOk_net HX.out hin))
                go_wp2
                go_quiet ((first | (go_at_call 88; exact Calls.quiet_of_same ((implIsName_any x.name _ hsz).mono fun _ _ h => ⟨h.1, h.2.symm⟩)) | (go_at_call 87; exact Calls.quiet_of_same ((within_any _ _ _ _).mono fun _ _ h => ⟨h.1, h.2.symm⟩))))
                go_wp2
                go_ret
                exact ⟨ret_bool hr.out.symm, blwT⟩
            · have hr := Lib.hid (HPT.out _ hlt (ptOk_name HX.out hnm))
              go_wp2
              go_quiet ((first | (go_at_call 88; exact Calls.quiet_of_same ((implIsName_any x.name _ hsz).mono fun _ _ h => ⟨h.1, h.2.symm⟩)) | (go_at_call 87; exact Calls.quiet_of_same ((within_any _ _ _ _).mono fun _ _ h => ⟨h.1, h.2.symm⟩))))
              go_wp2
              go_ret
              exact ⟨ret_bool hr.out.symm, blwT⟩
          · obtain rfl : k = ps.length := by omega
            have hr := Lib.hid (HEN.out HN1.out h24 h8 (fun i hi => HI.out i hi))
            have eg : ∀ args w, (callFunc 90 args).run Tryz.prog w = .ok (.enter 90 args) w := enters_of Tryz.func90 (by kernel_rfl) rfl
            have hcl : ∀ (W : World) (x : Dv) (sv : Value), Below wr.heap.size wr W → x ∈ ds → IntSl W sv x.pins → Calls Tryz.prog 90 (#[.agg #[.int .i64 x.kind, sv, .int .i64 x.wd, .int .i64 x.len]] ++ #[.pointer (some ⟨w.heap.size, 0, none⟩)]) W fun e w' => e = .returned (.bool (!dvB nets x)) ∧ Below W.heap.size W w' := by
              intro W x sv hbW _ hS
              show Calls Tryz.prog 90 #[.agg #[.int .i64 x.kind, sv, .int .i64 x.wd, .int .i64 x.len], .pointer (some ⟨w.heap.size, 0, none⟩)] W _
              exact vnClosure_any x sv nets w.heap.size W (cell_by' hbW (by rw [cN]; rfl)) hS (by omega) (by omega)
            have HC := Lib.hid (containsFuncD_any 90 #[.pointer (some ⟨w.heap.size, 0, none⟩)] eg (fun d => !dvB nets d) _ ds wr (HD.out.by hb) hcl)
            rw [dvs_any] at HC
            clear eg hcl HI
            go_wp2_with (go_at_call 89; refine HC.out.mono ?_; rintro e w1 ⟨rfl, hb1⟩)
            go_ret
            exact ⟨ret_bool (by rw [hr.out]), blwT⟩
      · have hr := Lib.hid (HNP.out h8)
        go_enter Tryz.func40, Tryz.ntmps40
        go_wp2_with (go_at_call 87; refine (within_any _ _ _ _).mono ?_; rintro e w' ⟨rfl, rfl⟩)
        go_ret
        exact ⟨ret_bool hr.out.symm, blwT⟩
    · have hr := Lib.hid (HND.out h24)
      go_enter Tryz.func40, Tryz.ntmps40
      go_wp2_with (go_at_call 87; refine (within_any _ _ _ _).mono ?_; rintro e w' ⟨rfl, rfl⟩)
      go_ret
      exact ⟨ret_bool hr.out.symm, blwT⟩
  · have hr := Lib.hid (HNn.out hn)
    go_enter Tryz.func40, Tryz.ntmps40
    go_wp2_with (go_at_call 87; refine (within_any _ _ _ _).mono ?_; rintro e w' ⟨rfl, rfl⟩)
    go_ret
    exact ⟨ret_bool hr.out.symm, blwT⟩
def dcells : List Dv → List Value → List Value
  | d :: ds, p :: ps => .int .i64 d.kind :: p :: .int .i64 d.wd :: .int .i64 d.len :: dcells ds ps
  | _, _ => []
theorem dcells_push (ds : List Dv) (ps : List Value) (d : Dv) (p : Value) (h : ps.length = ds.length) : dcells (ds ++ [d]) (ps ++ [p]) = dcells ds ps ++ [.int .i64 d.kind, p, .int .i64 d.wd, .int .i64 d.len] := by
  induction ds generalizing ps with
  | nil => cases ps with
    | nil => rfl
    | cons => simp at h
  | cons y ys ih => cases ps with
    | nil => simp at h
    | cons q qs => simp at h; simp [dcells, ih qs h]
theorem dcells_get (ds : List Dv) (ps : List Value) (i : Nat) (d : Dv) (p : Value) (h : ds[i]? = some d) (hp : ps[i]? = some p) : (dcells ds ps)[i * 4]? = some (.int .i64 d.kind) ∧ (dcells ds ps)[i * 4 + 1]? = some p ∧ (dcells ds ps)[i * 4 + 2]? = some (.int .i64 d.wd) ∧ (dcells ds ps)[i * 4 + 3]? = some (.int .i64 d.len) := by
  induction ds generalizing ps i with
  | nil => simp at h
  | cons y ys ih => cases ps with
    | nil => simp at hp
    | cons q qs => cases i with
      | zero => simp at h hp; subst h hp; simp [dcells]
      | succ i =>
        simp at h hp
        have e : ∀ r, (dcells (y :: ys) (q :: qs))[(i + 1) * 4 + r]? = (dcells ys qs)[i * 4 + r]? := by
          intro r
          show (Value.int .i64 y.kind :: q :: Value.int .i64 y.wd :: Value.int .i64 y.len :: dcells ys qs)[(i + 1) * 4 + r]? = _
          rw [show (i + 1) * 4 + r = (i * 4 + r) + 1 + 1 + 1 + 1 by omega]
          simp only [List.getElem?_cons_succ]
        have e0 := e 0
        simp only [Nat.add_zero] at e0
        rw [e0, e 1, e 2, e 3]
        exact ih qs i h hp
def Bld (w : World) (lo hi : Nat) (v : Value) (ds : List Dv) : Prop := hi ≤ w.heap.size ∧ ∃ (pvs : List Value) (f : Nat → Nat), w.ownsRow lo 62 4 v ds.length (dcells ds pvs) ∧ pvs.length = ds.length ∧ (∀ g, v.ownBlock = some g → lo ≤ g ∧ g < hi) ∧
  (∀ i x pv, ds[i]? = some x → pvs[i]? = some pv → OwnR w (f i) (f i + 1) pv x.pins ∧ (lo ≤ f i ∧ f i < hi) ∧ v.ownBlock ≠ some (f i)) ∧ (∀ i j, i < ds.length → j < ds.length → i ≠ j → f i ≠ f j)
section
variable {w w' : World} {lo hi : Nat} {v : Value} {ds : List Dv}
theorem grown_within {row : Option Nat} (h : w.grownBy w' row) (hr : ∀ g, row = some g → lo ≤ g ∧ g < hi) : Within lo hi w w' :=
  ⟨h.os, h.tape, h.output, h.size, fun k hk hd => h.block k hk (fun e => by have := hr k e.symm; omega)⟩
theorem row_same {T : TypeId} {k n : Nat} {xs : List Value} (h : w.ownsRow lo T k v n xs) (hb : ∀ g, v.ownBlock = some g → w'.heap[g]? = w.heap[g]?) : w'.ownsRow lo T k v n xs := by
  obtain ⟨h1, h2⟩ := h
  refine ⟨h1, ?_⟩
  rcases h2 with h2 | ⟨g, cap, cur, e1, e2, e3, e4⟩
  · exact .inl h2
  · exact .inr ⟨g, cap, cur, e1, e2, by rw [hb g (by rw [e1]; rfl)]; exact e3, e4⟩
theorem Bld.nil (w : World) (lo : Nat) : Bld w lo w.heap.size (.slice none 0 0) [] :=
  ⟨Nat.le_refl _, [], fun _ => 0, World.ownsRow_nil w lo _ 4, rfl, (by intro g h; cases h), (by intro i x pv h; simp at h), (by intro i j h; simp at h)⟩
theorem Bld.by (hb : Below w.heap.size w w') (h : Bld w lo hi v ds) : Bld w' lo hi v ds := by
  obtain ⟨hs, pvs, f, h1, h2, h3, h4, h5⟩ := h
  refine ⟨Nat.le_trans hs hb.size, pvs, f, row_same h1 (fun g hg => hb.block g (by have := h3 g hg; omega)), h2, h3, fun i x pv hx hp => ?_, h5⟩
  obtain ⟨a, b, c⟩ := h4 i x pv hx hp
  exact ⟨OwnR.by hb a, b, c⟩
theorem Bld.past {lo' hi' : Nat} (hb : Within lo' hi' w w') (h : Bld w lo hi v ds) (hd : hi' ≤ lo ∨ hi ≤ lo') : Bld w' lo hi v ds := by
  obtain ⟨hs, pvs, f, h1, h2, h3, h4, h5⟩ := h
  refine ⟨Nat.le_trans hs hb.size, pvs, f, row_same h1 (fun g hg => hb.block g (by have := h3 g hg; omega) (by have := h3 g hg; omega)), h2, h3, fun i x pv hx hp => ?_, h5⟩
  obtain ⟨a, b, c⟩ := h4 i x pv hx hp
  exact ⟨OwnR.past hb a (by omega), b, c⟩
theorem Bld.sized (h : Bld w lo hi v ds) : ∃ a c, v = .slice a ds.length c := by
  obtain ⟨_, pvs, f, ⟨_, h1⟩, _⟩ := h
  rcases h1 with ⟨h1, h2⟩ | ⟨g, cap, cur, e1, _⟩
  · exact ⟨none, 0, by rw [h1, h2]⟩
  · exact ⟨_, _, e1⟩
theorem Bld.own (h : Bld w lo hi v ds) : OwnDs w lo hi v ds := by
  obtain ⟨hs, pvs, f, ⟨hlen, h1⟩, h2, h3, h4, h5⟩ := h
  rcases h1 with ⟨h1, hn⟩ | ⟨g, cap, cur, e1, e2, e3, e4, e5, e6, e7⟩
  · exact .inl ⟨_, _, h1, List.eq_nil_of_length_eq_zero hn⟩
  · have hcur : ∀ (j : Nat) u, (dcells ds pvs)[j]? = some u → cur[j]? = some u := by
      intro j u hu
      rw [← e7] at hu
      have hj : j < ds.length * 4 := by
        have := (List.getElem?_eq_some_iff.1 hu).1
        rw [List.length_take] at this; omega
      rw [List.getElem?_take_of_lt hj] at hu
      simpa using hu
    refine .inr ⟨g, cap, cur, f, e1, h3 g (by rw [e1]; rfl), e4, e5, e3, fun i x hx => ?_, h5⟩
    have hi : i < ds.length := (List.getElem?_eq_some_iff.1 hx).1
    obtain ⟨pv, hp⟩ : ∃ pv, pvs[i]? = some pv := ⟨pvs[i]'(by omega), List.getElem?_eq_getElem (by omega)⟩
    obtain ⟨a, b, c⟩ := h4 i x pv hx hp
    obtain ⟨q0, q1, q2, q3⟩ := dcells_get ds pvs i x pv hx hp
    refine ⟨⟨pv, ⟨hcur _ _ q0, hcur _ _ q1, hcur _ _ q2, hcur _ _ q3⟩, a⟩, b.1, b.2, fun e => c (by rw [e1, e]; rfl)⟩
end
theorem step_push {ops : Array Oper} {o : Oper} {a : Act} {w : World} {K : Act → World → Prop} {Q : Exit → Act → World → Prop} {E : Prop} (hgd : o.guard = none) (s x : Operand)
    (ho : o.op = .call { callee := .builtin .append, args := #[s, x], argTypes := #[32, 32] })
    (lo hi : Nat) (v : Value) (ds : List Dv) (hs : a.eval s = v) (hB : Bld w lo hi v ds) (nb : Nat) (d : Dv) (pv : Value) (fb : Nat) (hx : a.eval x = .slice (some ⟨nb, 0, none⟩) 1 1)
    (hnb : Blk w nb #[.int .i64 d.kind, pv, .int .i64 d.wd, .int .i64 d.len] 62) (hpv : OwnR w fb (fb + 1) pv d.pins) (hlo : lo ≤ hi) (hhi : hi ≤ fb) (hfb : fb < w.heap.size) (hn : ds.length ≤ 1000)
    (hK : ∀ a' c' w', Bld w' lo w'.heap.size (.slice a' (ds.length + 1) c') (ds ++ [d]) → Within lo hi w w' → K (a.put o.dst (.slice a' (ds.length + 1) c')) w') :
    if Region.wanted o (yielded ops a.tmps) = true then Oper.wp Tryz.prog o a w K Q else E := by
  obtain ⟨i0, hi0, hz0, hz1, hz2⟩ := info_parts infoDev
  obtain ⟨hsz, pvs, f, h1, h2, h3, h4, h5⟩ := hB
  have hone : pv.oneCell' = true := by
    rcases hpv with ⟨_, _, rfl, _⟩ | ⟨_, _, _, rfl, _⟩ <;> rfl
  refine step_append_lies w hgd s x 32 ho lo 62 i0 _ 4 48 Tryz.underlying32 hi0 hz0 hz1 hz2 rfl (by decide) v ds.length _ hs h1 ⟨nb, 0, none⟩ 1 1 [.int .i64 d.kind, pv, .int .i64 d.wd, .int .i64 d.len] hx rfl (World.news_of_block (cs := #[.int .i64 d.kind, pv, .int .i64 d.wd, .int .i64 d.len]) hnb) ?_ (by decide) (by unfold maxLen; omega) (by omega) (by omega) w.heap.size rfl ?_
  · intro u hu
    simp at hu
    rcases hu with rfl | rfl | rfl | rfl
    · rfl
    · exact hone
    · rfl
    · rfl
  · intro g cap w' hrow hgrow hg hgl
    have hW : Within lo hi w w' := grown_within hgrow h3
    refine hK (some ⟨g, 0, none⟩) cap w' ⟨Nat.le_refl _, pvs ++ [pv], fun i => if i = ds.length then fb else f i, ?_, by simp [h2], ?_, ?_, ?_⟩ hW
    · rw [List.length_append, List.length_singleton, dcells_push ds pvs d pv h2]; exact hrow
    · intro g' hg'
      have : g = g' := by injection hg'
      subst this
      rcases hg with h | h
      · have := h3 g h; omega
      · omega
    · intro i y pv' hy hp'
      by_cases hi' : i < ds.length
      · rw [List.getElem?_append_left hi'] at hy
        rw [List.getElem?_append_left (by omega)] at hp'
        obtain ⟨a1, b1, c1⟩ := h4 i y pv' hy hp'
        simp only [if_neg (show i ≠ ds.length by omega)]
        have hsep : ∀ g0, v.ownBlock = some g0 → g0 ≠ f i := fun g0 e1 e2 => c1 (by rw [e1, e2])
        refine ⟨?_, by have := hgrow.size; omega, ?_⟩
        · cases hv : v.ownBlock with
          | none => exact OwnR.by ⟨hgrow.os, hgrow.tape, hgrow.output, hgrow.size, fun k hk => hgrow.block k hk (by rw [hv]; simp)⟩ a1
          | some g0 => exact OwnR.past (grown_within (lo := g0) (hi := g0 + 1) hgrow (fun g1 e => by rw [hv] at e; cases e; omega)) a1 (by have := hsep g0 hv; omega)
        · intro e
          have : g = f i := by injection e
          rcases hg with h | h
          · exact hsep g h this
          · omega
      · have hil : i < (ds ++ [d]).length := (List.getElem?_eq_some_iff.1 hy).1
        simp at hil
        obtain rfl : i = ds.length := by omega
        rw [List.getElem?_append_right (Nat.le_refl _)] at hy
        rw [List.getElem?_append_right (by omega)] at hp'
        simp [h2] at hy hp'
        subst hy hp'
        simp only [if_true]
        refine ⟨OwnR.past hW hpv (by omega), by have := hgrow.size; omega, ?_⟩
        intro e
        have : g = fb := by injection e
        rcases hg with h | h
        · have := h3 g h; omega
        · omega
    · intro i j hi' hj' hij
      simp at hi' hj'
      by_cases e1 : i = ds.length
      · subst e1
        obtain ⟨y, hy⟩ : ∃ y, ds[j]? = some y := ⟨ds[j]'(by omega), List.getElem?_eq_getElem (by omega)⟩
        obtain ⟨p, hp⟩ : ∃ p, pvs[j]? = some p := ⟨pvs[j]'(by omega), List.getElem?_eq_getElem (by omega)⟩
        have := (h4 j y p hy hp).2.1
        simp only [if_true, if_neg (show j ≠ ds.length by omega)]
        omega
      · by_cases e2 : j = ds.length
        · subst e2
          obtain ⟨y, hy⟩ : ∃ y, ds[i]? = some y := ⟨ds[i]'(by omega), List.getElem?_eq_getElem (by omega)⟩
          obtain ⟨p, hp⟩ : ∃ p, pvs[i]? = some p := ⟨pvs[i]'(by omega), List.getElem?_eq_getElem (by omega)⟩
          have := (h4 i y p hy hp).2.1
          simp only [if_true, if_neg e1]
          omega
        · simp only [if_neg e1, if_neg e2]
          exact h5 i j (by omega) (by omega) hij
/- Copies of slices of ports. -/
def pcells : List Pt → List Value
  | p :: ps => .string p.name :: .int .i64 p.net :: pcells ps
  | [] => []
theorem length_pcells (ps : List Pt) : (pcells ps).length = ps.length * 2 := by
  induction ps with
  | nil => rfl
  | cons p ps ih => simp [pcells, ih]; omega
theorem pcells_get (ps : List Pt) (i : Nat) (p : Pt) (h : ps[i]? = some p) : (pcells ps)[i * 2]? = some (.string p.name) ∧ (pcells ps)[i * 2 + 1]? = some (.int .i64 p.net) := by
  induction ps generalizing i with
  | nil => simp at h
  | cons q qs ih => cases i with
    | zero => simp at h; subst h; simp [pcells]
    | succ i =>
      simp at h
      have e : ∀ r, (pcells (q :: qs))[(i + 1) * 2 + r]? = (pcells qs)[i * 2 + r]? := by
        intro r
        show (Value.string q.name :: Value.int .i64 q.net :: pcells qs)[(i + 1) * 2 + r]? = _
        rw [show (i + 1) * 2 + r = (i * 2 + r) + 1 + 1 by omega]
        simp only [List.getElem?_cons_succ]
      have e0 := e 0
      simp only [Nat.add_zero] at e0
      rw [e0, e 1]
      exact ih i h
theorem pcells_at (ps : List Pt) (j : Nat) (u : Value) (h : (pcells ps)[j]? = some u) : ∃ p, ps[j / 2]? = some p ∧ ((j % 2 = 0 ∧ u = .string p.name) ∨ (j % 2 = 1 ∧ u = .int .i64 p.net)) := by
  have hj : j < ps.length * 2 := by have := (List.getElem?_eq_some_iff.1 h).1; rwa [length_pcells] at this
  obtain ⟨p, hp⟩ : ∃ p, ps[j / 2]? = some p := ⟨ps[j / 2]'(by omega), List.getElem?_eq_getElem (by omega)⟩
  obtain ⟨e1, e2⟩ := pcells_get ps (j / 2) p hp
  refine ⟨p, hp, ?_⟩
  rcases Nat.mod_two_eq_zero_or_one j with hm | hm
  · left
    rw [show j / 2 * 2 = j by omega, h] at e1
    exact ⟨hm, Option.some.inj e1⟩
  · right
    rw [show j / 2 * 2 + 1 = j by omega, h] at e2
    exact ⟨hm, Option.some.inj e2⟩
section
variable {w w1 : World} {lo : Nat} {sv : Value} {ps : List Pt}
theorem src_ports (h : PtSl w sv ps) : Src Tryz.prog 2 33 sv ps.length (pcells ps) w := by
  have h1 : ∀ u ∈ pcells ps, u.oneCell' = true := by
    intro u hu
    obtain ⟨j, hj, e⟩ := List.mem_iff_getElem.1 hu
    obtain ⟨p, _, h⟩ := pcells_at ps j u (by rw [List.getElem?_eq_getElem hj, e])
    rcases h with ⟨_, rfl⟩ | ⟨_, rfl⟩ <;> rfl
  rcases h with ⟨a, c, rfl, rfl⟩ | ⟨b, off, cap, rfl, h2, h3, h4⟩
  · cases a with
    | none => exact Src.ofNil w Tryz.underlying33 c
    | some a => exact Src.ofSlice w Tryz.underlying33 a 0 c [] rfl (by simp) (by simp)
  · refine Src.ofSlice w Tryz.underlying33 _ _ _ _ (by rw [length_pcells]) (fun j u hu => ?_) h1
    obtain ⟨p, hp, hc⟩ := pcells_at ps j u hu
    obtain ⟨c1, c2⟩ := h4 _ p hp
    rw [Addr.add_lit]
    rcases hc with ⟨hm, rfl⟩ | ⟨hm, rfl⟩
    · have e : off + j / 2 * 2 = off + j := by omega
      rw [e] at c1; exact c1
    · have e : off + j / 2 * 2 + 1 = off + j := by omega
      rw [e] at c2; exact c2
theorem cloneP_run (h : PtSl w sv ps) (hn : ps.length ≤ 1048576) (b : Nat) (ty : TypeId) (hlo : lo ≤ w.heap.size) :
    ∃ v w', (Builtin.append_ #[33, 33] ty #[.slice (some ⟨b, 0, none⟩) 0 0, sv]).run Tryz.prog w = .ok v w' ∧ OwnPs w' lo w'.heap.size v ps ∧ Below w.heap.size w w' := by
  obtain ⟨i0, hi, hz0, hz1, hz2⟩ := info_parts infoPt
  have hS := src_ports h
  by_cases h0 : ps = []
  · subst h0
    have hr := run_append_room_src (P := Tryz.prog) w 33 33 ty 98 i0 Tryz.underlying33 hi b 0 0 0 sv 0 [] (by rw [hz1]; exact hS) (by omega) (by simp) (by simp)
    refine ⟨_, _, hr, .inl ⟨_, _, rfl, rfl⟩, ?_⟩
    exact Below.refl _ _
  · have hl : 0 < ps.length := List.length_pos_iff.2 h0
    have hr := run_append_grow_src (P := Tryz.prog) w 33 33 ty 98 i0 _ Tryz.underlying33 hi hz0 (some ⟨b, 0, none⟩) 0 0 [] (by rw [hz1]; exact run_firstCells_some w.drew 2 0 _ 0 0 [] rfl (by simp)) sv ps.length (pcells ps) (by rw [hz1]; exact hS) (by omega) (by omega)
      (by rw [hz2]; simp only [Builtin.nextslicecap, Nat.mul_zero, Nat.zero_add]; rw [if_pos (by omega)]; omega)
    refine ⟨_, _, hr, .inr ⟨w.heap.size, grownCap w (0 + ps.length) 0 98, _, by rw [Nat.zero_add], ⟨hlo, by simp⟩, by have := grownCap_ge w (0 + ps.length) 0 98; omega, grownCap_le_maxLen _ _ _ _ (by unfold maxLen; omega), Blk.new _ rfl, ?_⟩, ((Below.refl _ _).drew).alloc (Nat.le_refl _) _⟩
    intro i x hx
    have hi := (List.getElem?_eq_some_iff.1 hx).1
    obtain ⟨e1, e2⟩ := pcells_get ps i x hx
    have hl2 := length_pcells ps
    refine ⟨?_, ?_⟩
    · rw [Array.getElem?_append_left (by simp [hl2]; omega)]; simpa using e1
    · rw [Array.getElem?_append_left (by simp [hl2]; omega)]; simpa using e2
end
theorem list_cloneP {ops : Array Oper} {rest : List Oper} {o : Oper} {a : Act} {w : World} {Q : Exit → Act → World → Prop} (hgd : o.guard = none) (s x : Operand)
    (ho : o.op = .call { callee := .builtin .append, args := #[s, x], argTypes := #[33, 33] })
    (b : Nat) (hs : a.eval s = .slice (some ⟨b, 0, none⟩) 0 0) (sv : Value) (ps : List Pt) (hx : a.eval x = sv) (h : PtSl w sv ps) (hn : ps.length ≤ 1048576) (lo : Nat) (hlo : lo ≤ w.heap.size)
    (hK : ∀ v w', OwnPs w' lo w'.heap.size v ps → Below w.heap.size w w' → wpList Tryz.prog ops Q rest (a.put o.dst v) w') : wpList Tryz.prog ops Q (o :: rest) a w :=
  wpList_plain hgd fun _ hK' => by
    obtain ⟨v, w', hr, h2, h3⟩ := cloneP_run h hn b o.type hlo
    unfold Oper.wp execOp
    simp only [ho, resolve, invoke, builtin, Sem.run_bind, Sem.run_pure, Result.andThen_ok, List.map_toArray, List.map_cons, List.map_nil, hs, hx, hr]
    exact hK' _ _ (hK v w' h2 h3)
set_option maxRecDepth 100000 in
set_option maxHeartbeats 1000000 in
theorem cloneP_any (sv : Value) (ps : List Pt) (w : World) (h : PtSl w sv ps) (hn : ps.length ≤ 1048576) :
    Calls Tryz.prog 123 #[sv] w fun e w' => ∃ v, e = .returned v ∧ OwnPs w' w.heap.size w'.heap.size v ps ∧ Below w.heap.size w w' := by
  obtain ⟨a, c, rfl⟩ := h.sized
  have q22 : ∀ (w : World) (a : Option Addr) (n c n' c' : Nat), (binOp .eql 33 (.slice a n c) (.slice none n' c')).run Tryz.prog w = .ok (.bool a.isNone) w := fun w a n c n' c' => Lib.run_eql_slice_nil w _ _ a n c n' c' Tryz.underlying33
  cases a with
  | none =>
    have hz : ps = [] := by
      rcases h with ⟨_, _, _, h2⟩ | ⟨b, off, cap, h1, _⟩
      · exact h2
      · simp at h1
    subst hz
    go_enter Tryz.func123, Tryz.ntmps123
    go_wp2
    refine bodyPost_ret (v := .slice none 0 0) (by simp [results, Tryz.results123, go_sem, *]) rfl ⟨_, rfl, .inl ⟨_, _, rfl, rfl⟩, blwT⟩
  | some ad =>
    go_enter Tryz.func123, Tryz.ntmps123
    go_wp2_with ((refine list_cloneP (by rfl) _ _ (by rfl) _ (by rfl) _ ps (by rfl) (h.by blwT) hn w.heap.size (by simp; try omega) ?_; intro v w3 hO hb3; have HO := Lib.hid hO; obtain ⟨a1, c1, rfl⟩ := hO.sl.sized; clear hO))
    refine bodyPost_ret (v := .slice a1 ps.length c1) (by simp [results, Tryz.results123, go_sem, *]) rfl ⟨_, rfl, HO.out, blwT⟩
/- copyNetlist. -/
theorem OwnI.pin {w : World} {lo : Nat} {sv : Value} {zs : List Int} (h : OwnI w lo sv zs) (hne : zs ≠ []) : ∃ g, lo ≤ g ∧ g < w.heap.size ∧ OwnR w g (g + 1) sv zs := by
  rcases h with ⟨_, _, _, h⟩ | ⟨g, cap, cs, h1, h2, h3, h4, h5, h6⟩
  · exact absurd h hne
  · exact ⟨g, h2, h5.lt, .inr ⟨g, cap, cs, h1, Nat.le_refl _, Nat.lt_succ_self _, h3, h4, h5, h6⟩⟩
set_option maxRecDepth 100000 in
set_option maxHeartbeats 4000000 in
theorem copyNetlist_any (x : Nl) (v : Value) (w : World) (h : NlV w v x) (hl : x.ds.length ≤ 1000) (hpl : x.ps.length ≤ 1048576) (hpn : ∀ d ∈ x.ds, d.pins.length ≤ 1048576 ∧ d.pins ≠ []) :
    Calls Tryz.prog 76 #[v] w fun e w' => ∃ v', e = .returned v' ∧ OwnNl w' w.heap.size w'.heap.size v' x ∧ Below w.heap.size w w' := by
  obtain ⟨s1, s2, rfl, hd, hp⟩ := h
  obtain ⟨nets, ds, ps⟩ := x
  dsimp only at hd hp hl hpl hpn ⊢
  have HD := Lib.hid hd
  have HP := Lib.hid hp
  have HPN := Lib.hid hpn
  have HCL := Lib.hid (fun w h => cloneP_any s2 ps w h hpl)
  obtain ⟨a1, c1, rfl⟩ := hd.sized
  obtain ⟨a2, c2, rfl⟩ := hp.sized
  clear hd hp hpn
  go_enter Tryz.func76, Tryz.ntmps76
  go_upto_region 1 with fail
  go_cut [3] (fun s3 wx => ∃ (p : Nat) (a3 : Option Addr) (c3 lo2 hi2 : Nat), s3 = .pointer (some ⟨p, 0, none⟩) ∧ Blk wx p #[.int .i64 nets, .slice none 0 0, .slice a3 ps.length c3] 35 ∧ Blk wx w.heap.size #[.int .i64 nets, .slice a1 ds.length c1, .slice a2 ps.length c2] 35 ∧ Blk wx (w.heap.size + 1) #[.int .i64 0, .slice none 0 0, .slice none 0 0] 35 ∧ OwnPs wx lo2 hi2 (.slice a3 ps.length c3) ps ∧ (w.heap.size + 1 < p ∧ w.heap.size + 1 < lo2 ∧ hi2 ≤ wx.heap.size ∧ (p < lo2 ∨ hi2 ≤ p)) ∧ Below w.heap.size w wx)
  case first =>
    go_region_held3 ((fun w' => (Blk w' (w.heap.size) #[.int .i64 nets, .slice a1 ds.length c1, .slice a2 ps.length c2] 35 ∧ ∀ o, w'.cell? ⟨w.heap.size, o, none⟩ = (#[.int .i64 nets, .slice a1 ds.length c1, .slice a2 ps.length c2] : Array Value)[o]?) ∧ Below w.heap.size w w')) (((try (obtain ⟨⟨hS0, _⟩, hSB⟩ := hHeld)); refine ⟨Blk.both ?_, ?_⟩ <;> first | ((repeat (first | (with_reducible assumption) | (with_reducible refine Blk.drewN ?_ _) | (with_reducible refine Blk.drew ?_) | ((with_reducible refine Blk.new _ ?_); focus (first | omega | (simp; done) | (simp; omega))) | (with_reducible refine Blk.past ?_ _) | ((with_reducible refine Blk.apart ?_ _ _ _ ?_); rotate_left; focus (first | omega | (simp; done) | (simp; omega))) | (with_reducible refine Blk.by (by assumption) ?_))); done) | ((repeat (first | (with_reducible exact Below.refl _ _) | (with_reducible refine below_drewN ?_ _) | (with_reducible refine Below.drew ?_) | (with_reducible refine below_al ?_ _) | (with_reducible refine below_on (by assumption) ?_) | ((with_reducible refine Below.setCell ?_ ?_ _); rotate_left; focus (first | omega | (simp; done) | (simp; omega))) | (with_reducible assumption))); done)))
      (first | (go_at_call 123; refine (HCL.out _ (HP.out.by blwT)).mono ?_; rintro e w1 ⟨v1, rfl, hO, hb1⟩; have HO := Lib.hid hO; obtain ⟨a3, c3, rfl⟩ := hO.sl.sized; clear hO; (try (refine with_fact (p := Blk w1 (w.heap.size + 1 + 1) #[.int .i64 0, .slice none 0 0, .slice none 0 0] 35) (Blk.by hb1 ?_) ?_; (focus ((repeat (first | (with_reducible assumption) | (with_reducible refine Blk.drewN ?_ _) | (with_reducible refine Blk.drew ?_) | ((with_reducible refine Blk.new _ ?_); focus (first | omega | (simp; done) | (simp; omega))) | (with_reducible refine Blk.past ?_ _) | ((with_reducible refine Blk.apart ?_ _ _ _ ?_); rotate_left; focus (first | omega | (simp; done) | (simp; omega))) | (with_reducible refine Blk.by (by assumption) ?_))); done)); intro k3; have c3' := k3.cell; have f3' := k3.free))))
    all_goals (go_wp2_with fail; go_meet)
    all_goals have hlw := hb1.size
    all_goals simp only [World.size_alloc, World.size_drew] at hlw
    · refine ⟨_, a3, c3, w.heap.size + 1 + 1, w1.heap.size, rfl, Blk.new _ rfl, blkT, blkT, ?_, ⟨by omega, by omega, by simp, by omega⟩, blwT⟩
      exact (HO.out.by ((Below.refl _ w1).alloc (Nat.le_refl _) _)).wide (by simp) (by simp)
    · refine ⟨_, a3, c3, w.heap.size + 1 + 1 + 1, w1.heap.size, rfl, (((k3.set 0 _).set 1 _).set 2 _), blkT, blkT, ?_, ⟨by omega, by omega, by simp, by omega⟩, blwT⟩
      exact (((HO.out.past (Within.off _) (by simp)).past (Within.off _) (by simp)).past (Within.off _) (by simp)).wide (by simp) (by simp)
  case rest =>
    obtain ⟨p, a3, c3, lo2, hi2, rfl, kP, kN, kZ, hO, ⟨hp1, hp2, hp3, hp4⟩, hb⟩ := hcut
    have HO := Lib.hid hO
    have lP := kP.lt
    have hbl := hb.size
    have cN := kN.cell
    obtain ⟨B, hB⟩ : ∃ B, wc.heap.size = B := ⟨_, rfl⟩
    rw [hB] at lP hbl
    have hBl := Bld.nil wc wc.heap.size
    rw [hB] at hBl hp3
    have HO1 := Lib.hid hO
    have lPB : p < B := lP
    clear hO HO
    have HB := Lib.hid hB
    clear hB
    go_wp2
    go_loopw [15] (fun i wr => ∃ (k : Nat) (v : Value) (hi : Nat), k ≤ ds.length ∧ B ≤ hi ∧ i = .int .i64 k ∧ Bld wr B hi v (ds.take k) ∧ Blk wr p #[.int .i64 nets, v, .slice a3 ps.length c3] 35 ∧ Blk wr (w.heap.size + 1) #[.int .i64 0, .slice none 0 0, .slice none 0 0] 35 ∧ OwnPs wr lo2 hi2 (.slice a3 ps.length c3) ps ∧ Below w.heap.size w wr) (fun i _ => ds.length - (intOf i).toNat)
    case atStart => exact ⟨0, .slice none 0 0, B, Nat.zero_le _, Nat.le_refl _, rfl, hBl, kP, kZ, HO1.out, hb⟩
    case round =>
      clear kP kZ kN cN hb hBl
      obtain ⟨k, v, hi, hk, hBhi, rfl, hBl, kP, kZ, hO, hb⟩ := hrel
      have HO := Lib.hid hO
      have HBL := Lib.hid hBl
      have lP := kP.lt
      obtain ⟨av, cv, rfl⟩ := hBl.sized
      have hhi := hBl.1
      clear hO hBl
      by_cases hlt : k < ds.length
      · obtain ⟨x, hx⟩ : ∃ x, ds[k]? = some x := ⟨ds[k], List.getElem?_eq_getElem hlt⟩
        have HDS := HD.out
        rcases HDS with ⟨_, _, _, h2⟩ | ⟨b, off, cap, he, h2, h3, h4⟩
        · rw [h2] at hlt; simp at hlt
        obtain ⟨rfl, rfl⟩ : a1 = some ⟨b, off, none⟩ ∧ c1 = cap := by simpa using he
        obtain ⟨hxl, hxn⟩ := HPN.out x (List.mem_of_getElem? hx)
        obtain ⟨sx, d1, d2, d3, d4, hSx⟩ := (h4 k x hx).by hb
        have lX := lt_of_cell d1
        dsimp only at lX
        have HCD := Lib.hid (fun w h => copyDevice_any x.kind x.wd x.len sx x.pins w h hxl)
        have HSX := Lib.hid hSx
        have HX := Lib.hid hx
        have HXN := Lib.hid hxn
        have htk := List.length_take (i := k) (l := ds)
        obtain ⟨ax, cx, rfl⟩ := hSx.len
        have i1 : (0 : Int) ≤ (k : Int) := by omega
        have i2 : (k : Int) < (ds.length : Int) := by omega
        obtain ⟨wo, rfl⟩ : ∃ wo : World, wo = wr := ⟨_, rfl⟩
        have htl : (ds.take k).length = k := by rw [List.length_take]; omega
        have HTL := Lib.hid htl
        have kA : Blk (wo.alloc (.cells #[.int .i64 x.kind, .slice ax x.pins.length cx, .int .i64 x.wd, .int .i64 x.len] 62)) wo.heap.size #[.int .i64 x.kind, .slice ax x.pins.length cx, .int .i64 x.wd, .int .i64 x.len] 62 := Blk.new _ rfl
        have kP' := kP.past (.cells #[.int .i64 x.kind, .slice ax x.pins.length cx, .int .i64 x.wd, .int .i64 x.len] 62)
        have hb' := below_al hb (.cells #[.int .i64 x.kind, .slice ax x.pins.length cx, .int .i64 x.wd, .int .i64 x.len] 62)
        rw [htl] at kP' kP
        clear h4 hx hxn he hSx htk htl
        have hBL2 := HBL.out
        rw [HTL.out] at hBL2
        have HBL2 := Lib.hid hBL2
        clear hBL2
        clear HBL
        have cP : wo.cell? ⟨p, 1, none⟩ = some (.slice av k cv) := kP.cell 1
        have kP1' := kP'.drew
        go_wp2
        go_region_law
          (first | (go_simp; go_at_call 115; refine (HCD.out _ (HSX.out.by blwT)).mono ?_; rintro e w1 ⟨v1, rfl, hOI, hb1⟩; obtain ⟨fb, hf1, hf2, hOR⟩ := hOI.pin HXN.out; have HOR := Lib.hid hOR; obtain ⟨a1', c1', rfl⟩ := hOR.sl.len; clear hOR hOI; (try simp at hf1); have kP1 := Blk.by hb1 kP1'; have cP1 : w1.cell? ⟨p, 1, none⟩ = some (.slice av k cv) := kP1.cell 1; have lP1 := kP1.lt; dsimp only) | (refine step_push (by rfl) _ _ (by rfl) B hi _ (ds.take k) (by rfl) (HBL2.out.by blwT) w1.heap.size x _ fb (by rfl) (Blk.new _ rfl) (HOR.out.by ((Below.refl _ w1).alloc (Nat.le_refl _) _)) (by omega) (by omega) (by simp; omega) (by rw [HTL.out]; omega) ?_; intro a' c' w3 hBl3 hw3; have HBL3 := Lib.hid hBl3; have kP3 := hw3.blk ((Blk.by hb1 kP'.drew).past (.cells #[.int .i64 x.kind, .slice a1' x.pins.length c1', .int .i64 x.wd, .int .i64 x.len] 62)) (by omega); have cP3 : w3.cell? ⟨p, 1, none⟩ = some (.slice av k cv) := kP3.cell 1; have fP3 : w3.frozen? ⟨p, 1, none⟩ = false := kP3.free 1; have lP3 := kP3.lt; clear hBl3))
        all_goals
          have hsz3 := hw3.size
          simp only [World.size_alloc] at hsz3
          have hb3 := hw3.below (below_al (below_on hb1 hb'.drew) (.cells #[.int .i64 x.kind, .slice a1' x.pins.length c1', .int .i64 x.wd, .int .i64 x.len] 62)) (by omega)
          have kZ3 := hw3.blk ((Blk.by hb1 ((kZ.past (.cells #[.int .i64 x.kind, .slice ax x.pins.length cx, .int .i64 x.wd, .int .i64 x.len] 62)).drew)).past (.cells #[.int .i64 x.kind, .slice a1' x.pins.length c1', .int .i64 x.wd, .int .i64 x.len] 62)) (by omega)
          have hO3 := ((((HO.out.by ((Below.refl _ wo).alloc (Nat.le_refl _) (.cells #[.int .i64 x.kind, .slice ax x.pins.length cx, .int .i64 x.wd, .int .i64 x.len] 62))).by (below_of_drewN _ 1)).by hb1).by ((Below.refl _ w1).alloc (Nat.le_refl _) (.cells #[.int .i64 x.kind, .slice a1' x.pins.length c1', .int .i64 x.wd, .int .i64 x.len] 62))).past hw3 (by omega)
          have hl1 := hb1.size
          simp only [World.size_alloc, World.size_drew] at hl1
          go_wp2
          have hB4 := HBL3.out
          rw [HTL.out] at hB4
          have hW4 : Within p (p + 1) w3 (w3.setCell ⟨p, 1, none⟩ (.slice a' (k + 1) c')) := Within.off _
          have hO4 := OwnPs.past (lo := lo2) (hi := hi2) hW4 hO3 (by omega)
          refine ⟨⟨k + 1, .slice a' (k + 1) c', w3.heap.size, by omega, by omega, by go_num, ?_, kP3.set 1 _, kZ3.apart p 1 _ (by omega), hO4, hb3.setCell (by simp; omega) _⟩, by simp [intOf]; omega⟩
          rw [take_snoc_of ds k x HX.out]
          exact hB4.past hW4 (by omega)
      · obtain rfl : k = ds.length := by omega
        have hBL2 := HBL.out
        rw [List.take_length] at hBL2 kP
        have HOD := Lib.hid hBL2.own
        have c1' := kP.cell
        have c2' := kZ.cell
        have f2' := kZ.free
        have l2' := kZ.lt
        clear HBL hBL2
        go_wp2
        refine bodyPost_ret (v := .agg #[.int .i64 nets, .slice av ds.length cv, .slice a3 ps.length c3]) (by simp [results, Tryz.results76, go_sem, *]) rfl ⟨_, rfl, ⟨_, _, B, hi, lo2, hi2, rfl, ?_, ?_, ⟨hbl, by simp; omega⟩, ⟨by omega, by simp; omega⟩, .inr hp3⟩, ?_⟩
        · exact (((HOD.out.past (Within.off _) (by omega)).past (Within.off _) (by omega)).past (Within.off _) (by omega))
        · exact (((HO.out.past (Within.off _) (by omega)).past (Within.off _) (by omega)).past (Within.off _) (by omega))
        · repeat (first | (with_reducible exact hb) | ((with_reducible refine Below.setCell ?_ ?_ _); rotate_left; focus (simp; try omega)))
theorem pcells_push (ps : List Pt) (p : Pt) : pcells (ps ++ [p]) = pcells ps ++ [.string p.name, .int .i64 p.net] := by
  induction ps with
  | nil => rfl
  | cons q qs ih => simp [pcells, ih]
def BldP (w : World) (lo hi : Nat) (v : Value) (ps : List Pt) : Prop := hi ≤ w.heap.size ∧ w.ownsRow lo 98 2 v ps.length (pcells ps) ∧ (∀ g, v.ownBlock = some g → lo ≤ g ∧ g < hi)
section
variable {w w' : World} {lo hi : Nat} {v : Value} {ps : List Pt}
theorem BldP.nil (w : World) (lo : Nat) : BldP w lo w.heap.size (.slice none 0 0) [] :=
  ⟨Nat.le_refl _, World.ownsRow_nil w lo _ 2, by intro g h; cases h⟩
theorem BldP.by (hb : Below w.heap.size w w') (h : BldP w lo hi v ps) : BldP w' lo hi v ps := by
  obtain ⟨hs, h1, h3⟩ := h
  exact ⟨Nat.le_trans hs hb.size, row_same h1 (fun g hg => hb.block g (by have := h3 g hg; omega)), h3⟩
theorem BldP.past {lo' hi' : Nat} (hb : Within lo' hi' w w') (h : BldP w lo hi v ps) (hd : hi' ≤ lo ∨ hi ≤ lo') : BldP w' lo hi v ps := by
  obtain ⟨hs, h1, h3⟩ := h
  exact ⟨Nat.le_trans hs hb.size, row_same h1 (fun g hg => hb.block g (by have := h3 g hg; omega) (by have := h3 g hg; omega)), h3⟩
theorem BldP.sized (h : BldP w lo hi v ps) : ∃ a c, v = .slice a ps.length c := by
  obtain ⟨_, ⟨_, h1⟩, _⟩ := h
  rcases h1 with ⟨h1, h2⟩ | ⟨g, cap, cur, e1, _⟩
  · exact ⟨none, 0, by rw [h1, h2]⟩
  · exact ⟨_, _, e1⟩
theorem BldP.own (h : BldP w lo hi v ps) : OwnPs w lo hi v ps := by
  obtain ⟨hs, ⟨hlen, h1⟩, h3⟩ := h
  rcases h1 with ⟨h1, hn⟩ | ⟨g, cap, cur, e1, e2, e3, e4, e5, e6, e7⟩
  · exact .inl ⟨_, _, h1, List.eq_nil_of_length_eq_zero hn⟩
  · have hcur : ∀ (j : Nat) u, (pcells ps)[j]? = some u → cur[j]? = some u := by
      intro j u hu
      rw [← e7] at hu
      have hj : j < ps.length * 2 := by
        have := (List.getElem?_eq_some_iff.1 hu).1
        rw [List.length_take] at this; omega
      rw [List.getElem?_take_of_lt hj] at hu
      simpa using hu
    refine .inr ⟨g, cap, cur, e1, h3 g (by rw [e1]; rfl), e4, e5, e3, fun i x hx => ?_⟩
    obtain ⟨q0, q1⟩ := pcells_get ps i x hx
    exact ⟨hcur _ _ q0, hcur _ _ q1⟩
end
theorem step_pushP {ops : Array Oper} {o : Oper} {a : Act} {w : World} {K : Act → World → Prop} {Q : Exit → Act → World → Prop} {E : Prop} (hgd : o.guard = none) (s x : Operand)
    (ho : o.op = .call { callee := .builtin .append, args := #[s, x], argTypes := #[33, 33] })
    (lo hi : Nat) (v : Value) (ps : List Pt) (hs : a.eval s = v) (hB : BldP w lo hi v ps) (nb : Nat) (p : Pt) (hx : a.eval x = .slice (some ⟨nb, 0, none⟩) 1 1)
    (hnb : Blk w nb #[.string p.name, .int .i64 p.net] 98) (hlo : lo ≤ hi) (hn : ps.length ≤ 1000)
    (hK : ∀ a' c' w', BldP w' lo w'.heap.size (.slice a' (ps.length + 1) c') (ps ++ [p]) → Within lo hi w w' → K (a.put o.dst (.slice a' (ps.length + 1) c')) w') :
    if Region.wanted o (yielded ops a.tmps) = true then Oper.wp Tryz.prog o a w K Q else E := by
  obtain ⟨i0, hi0, hz0, hz1, hz2⟩ := info_parts infoPt
  obtain ⟨hsz, h1, h3⟩ := hB
  refine step_append_lies w hgd s x 33 ho lo 98 i0 _ 2 24 Tryz.underlying33 hi0 hz0 hz1 hz2 rfl (by decide) v ps.length _ hs h1 ⟨nb, 0, none⟩ 1 1 [.string p.name, .int .i64 p.net] hx rfl (World.news_of_block (cs := #[.string p.name, .int .i64 p.net]) hnb) ?_ (by decide) (by unfold maxLen; omega) (by omega) (by omega) w.heap.size rfl ?_
  · intro u hu
    simp at hu
    rcases hu with rfl | rfl
    · rfl
    · rfl
  · intro g cap w' hrow hgrow hg hgl
    have hW : Within lo hi w w' := grown_within hgrow h3
    refine hK (some ⟨g, 0, none⟩) cap w' ⟨Nat.le_refl _, ?_, ?_⟩ hW
    · rw [List.length_append, List.length_singleton, pcells_push]; exact hrow
    · intro g' hg'
      have : g = g' := by injection hg'
      subst this
      rcases hg with h | h
      · have := h3 g h; omega
      · omega
/- Netlists with other numbers of nets: the plain part. -/
def nmOf (names : List Int) (p : Int) : Int := names.getD p.toNat 0
def renD (names : List Int) (d : Dv) : Dv := ⟨d.kind, d.pins.map (nmOf names), d.wd, d.len⟩
def renP (names : List Int) (p : Pt) : Pt := ⟨p.name, nmOf names p.net⟩
def renS (x : Nl) (names : List Int) (nets : Int) : Nl := ⟨nets, x.ds.map (renD names), x.ps.map (renP names)⟩
def renTo (names : List Int) (zs : List Int) (k : Nat) : List Int := (zs.take k).map (nmOf names) ++ zs.drop k
theorem renTo_zero (names zs : List Int) : renTo names zs 0 = zs := by simp [renTo]
theorem renTo_all (names zs : List Int) : renTo names zs zs.length = zs.map (nmOf names) := by simp [renTo]
theorem renTo_get (names zs : List Int) (k : Nat) (z : Int) (h : zs[k]? = some z) : (renTo names zs k)[k]? = some z := by
  have hk := (List.getElem?_eq_some_iff.1 h).1
  rw [renTo, List.getElem?_append_right (by simp; omega)]
  simp
  rw [show k - min k zs.length = 0 by omega]
  simpa using h
theorem renTo_step (names zs : List Int) (k : Nat) (z : Int) (h : zs[k]? = some z) : (renTo names zs k).set k (nmOf names z) = renTo names zs (k + 1) := by
  have hk := (List.getElem?_eq_some_iff.1 h).1
  apply List.ext_getElem?
  intro i
  have e : zs[k] = z := by rw [List.getElem?_eq_getElem hk] at h; exact Option.some.inj h
  unfold renTo
  rw [take_snoc_of zs k z h]
  by_cases hi : i = k
  · subst hi
    rw [List.getElem?_set_self (by simp; omega)]
    rw [List.getElem?_append_left (by simp; omega), List.map_append, List.getElem?_append_right (by simp; omega)]
    simp
    rw [show i - min i zs.length = 0 by omega]
    rfl
  · rw [List.getElem?_set_ne (by omega)]
    by_cases hlt : i < k
    · rw [List.getElem?_append_left (by simp; omega), List.getElem?_append_left (by simp; omega), List.map_append, List.getElem?_append_left (by simp; omega)]
    · rw [List.getElem?_append_right (by simp; omega), List.getElem?_append_right (by simp; omega)]
      simp
      congr 1
      omega
theorem take_map_snoc {α β : Type} (f : α → β) (xs : List α) (k : Nat) (x : α) (h : xs[k]? = some x) : (xs.take (k + 1)).map f = (xs.take k).map f ++ [f x] := by
  rw [take_snoc_of xs k x h]; simp
def ICs (cs : Array Value) (zs : List Int) : Prop := ∀ (i : Nat) (z : Int), zs[i]? = some z → cs[i]? = some (Value.int .i64 z)
theorem ICs.set {cs : Array Value} {zs : List Int} (h : ICs cs zs) (k : Nat) (v : Int) : ICs (cs.setIfInBounds k (.int .i64 v)) (zs.set k v) := by
  intro i z hz
  have hi : i < zs.length := by have := (List.getElem?_eq_some_iff.1 hz).1; simpa using this
  have hc := h i zs[i] (List.getElem?_eq_getElem hi)
  have hs := (Array.getElem?_eq_some_iff.1 hc).1
  by_cases e : k = i
  · subst e
    rw [List.getElem?_set_self hi] at hz
    cases hz
    simp [Array.getElem?_setIfInBounds, hs]
  · rw [List.getElem?_set_ne e] at hz
    rw [Array.getElem?_setIfInBounds, if_neg e]
    exact h i z hz
theorem ICs.own {w : World} {g cap : Nat} {cs : Array Value} {zs : List Int} (h : ICs cs zs) (hB : Blk w g cs 2) (h1 : zs.length ≤ cap) (h2 : cap ≤ maxLen) : OwnR w g (g + 1) (.slice (some ⟨g, 0, none⟩) zs.length cap) zs :=
  .inr ⟨g, cap, cs, rfl, Nat.le_refl _, Nat.lt_succ_self _, h1, h2, hB, h⟩
theorem OwnR.cells {w : World} {lo hi : Nat} {sv : Value} {zs : List Int} (h : OwnR w lo hi sv zs) (hz : zs ≠ []) : ∃ g cap cs, sv = .slice (some ⟨g, 0, none⟩) zs.length cap ∧ (lo ≤ g ∧ g < hi) ∧ zs.length ≤ cap ∧ cap ≤ maxLen ∧ Blk w g cs 2 ∧ ICs cs zs := by
  rcases h with ⟨_, _, _, h⟩ | ⟨g, cap, cs, h1, h2, h2', h3, h4, h5, h6⟩
  · exact absurd h hz
  · exact ⟨g, cap, cs, h1, ⟨h2, h2'⟩, h3, h4, h5, h6⟩
/- The two pushes at a plain list of operations. -/
theorem list_push {ops : Array Oper} {rest : List Oper} {o : Oper} {a : Act} {w : World} {Q : Exit → Act → World → Prop} (hgd : o.guard = none) (s x : Operand)
    (ho : o.op = .call { callee := .builtin .append, args := #[s, x], argTypes := #[32, 32] })
    (lo hi : Nat) (v : Value) (ds : List Dv) (hs : a.eval s = v) (hB : Bld w lo hi v ds) (nb : Nat) (d : Dv) (pv : Value) (fb : Nat) (hx : a.eval x = .slice (some ⟨nb, 0, none⟩) 1 1)
    (hnb : Blk w nb #[.int .i64 d.kind, pv, .int .i64 d.wd, .int .i64 d.len] 62) (hpv : OwnR w fb (fb + 1) pv d.pins) (hlo : lo ≤ hi) (hhi : hi ≤ fb) (hfb : fb < w.heap.size) (hn : ds.length ≤ 1000)
    (hK : ∀ a' c' w', Bld w' lo w'.heap.size (.slice a' (ds.length + 1) c') (ds ++ [d]) → Within lo hi w w' → wpList Tryz.prog ops Q rest (a.put o.dst (.slice a' (ds.length + 1) c')) w') : wpList Tryz.prog ops Q (o :: rest) a w :=
  wpList_plain hgd fun K hk => by
    have h := step_push (ops := ops) (K := K) (Q := Q) (E := False) hgd s x ho lo hi v ds hs hB nb d pv fb hx hnb hpv hlo hhi hfb hn (fun a' c' w' h1 h2 => hk _ _ (hK a' c' w' h1 h2))
    rwa [if_pos (by simp [Region.wanted, hgd])] at h
/- One device's pins, one port's net, turned in place. -/
theorem OwnDs.setPins {w : World} {lo hi : Nat} {sv : Value} {ds : List Dv} {k : Nat} {x : Dv} (h : OwnDs w lo hi sv ds) (hx : ds[k]? = some x) :
    ∃ (g cap : Nat) (cs : Array Value) (fb : Nat) (pv : Value), sv = .slice (some ⟨g, 0, none⟩) ds.length cap ∧ Blk w g cs 62 ∧ Cs4 cs k (.int .i64 x.kind) pv (.int .i64 x.wd) (.int .i64 x.len) ∧ OwnR w fb (fb + 1) pv x.pins ∧ (lo ≤ fb ∧ fb < hi) ∧ (lo ≤ g ∧ g < hi) ∧ fb ≠ g ∧ ds.length ≤ maxLen ∧
      ∀ w' zs, zs.length = x.pins.length → Within fb (fb + 1) w w' → OwnR w' fb (fb + 1) pv zs → OwnDs w' lo hi sv (ds.set k ⟨x.kind, zs, x.wd, x.len⟩) := by
  rcases h with ⟨_, _, _, rfl⟩ | ⟨g, cap, cs, f, h1, h2, h3, h4, h5, h6, h7⟩
  · simp at hx
  obtain ⟨⟨pv, c4, hR⟩, hf⟩ := h6 k x hx
  have hk := (List.getElem?_eq_some_iff.1 hx).1
  refine ⟨g, cap, cs, f k, pv, h1, h5, c4, hR, ⟨hf.1, hf.2.1⟩, h2, hf.2.2, by omega, fun w' zs hzl hW hR' => ?_⟩
  refine .inr ⟨g, cap, cs, f, by rw [List.length_set]; exact h1, h2, by rw [List.length_set]; exact h3, h4, hW.blk h5 (by omega), fun i y hy => ?_, fun i j hi hj hij => h7 i j (by rwa [List.length_set] at hi) (by rwa [List.length_set] at hj) hij⟩
  by_cases e : k = i
  · subst e
    rw [List.getElem?_set_self hk] at hy
    cases hy
    exact ⟨⟨pv, c4, hR'⟩, hf⟩
  · rw [List.getElem?_set_ne e] at hy
    obtain ⟨⟨pv', c4', hR2⟩, hf'⟩ := h6 i y hy
    have hi := (List.getElem?_eq_some_iff.1 hy).1
    have := h7 k i hk hi e
    exact ⟨⟨pv', c4', OwnR.past hW hR2 (by omega)⟩, hf'⟩
theorem OwnPs.setNet {w : World} {lo hi : Nat} {sv : Value} {ps : List Pt} {k : Nat} {x : Pt} (h : OwnPs w lo hi sv ps) (hx : ps[k]? = some x) :
    ∃ (g cap : Nat) (cs : Array Value), sv = .slice (some ⟨g, 0, none⟩) ps.length cap ∧ Blk w g cs 98 ∧ Cs2 cs k (.string x.name) (.int .i64 x.net) ∧ (lo ≤ g ∧ g < hi) ∧ ps.length ≤ maxLen ∧
      ∀ w' z, Blk w' g (cs.setIfInBounds (k * 2 + 1) (.int .i64 z)) 98 → OwnPs w' lo hi sv (ps.set k ⟨x.name, z⟩) := by
  rcases h with ⟨_, _, _, rfl⟩ | ⟨g, cap, cs, h1, h2, h3, h4, h5, h6⟩
  · simp at hx
  have hk := (List.getElem?_eq_some_iff.1 hx).1
  refine ⟨g, cap, cs, h1, h5, h6 k x hx, h2, by omega, fun w' z hB => ?_⟩
  refine .inr ⟨g, cap, _, by rw [List.length_set]; exact h1, h2, by rw [List.length_set]; exact h3, h4, hB, fun i y hy => ?_⟩
  obtain ⟨q0, q1⟩ := h6 k x hx
  have hs := (Array.getElem?_eq_some_iff.1 q1).1
  by_cases e : k = i
  · subst e
    rw [List.getElem?_set_self hk] at hy
    cases hy
    refine ⟨?_, ?_⟩ <;> simp only [Array.getElem?_setIfInBounds]
    · rw [if_neg (by omega)]; exact q0
    · rw [if_pos trivial, if_pos hs]
  · rw [List.getElem?_set_ne e] at hy
    obtain ⟨r0, r1⟩ := h6 i y hy
    refine ⟨?_, ?_⟩ <;> simp only [Array.getElem?_setIfInBounds]
    · rw [if_neg (by omega)]; exact r0
    · rw [if_neg (by omega)]; exact r1
section
variable {α : Type} (f : α → α)
def upTo (xs : List α) (k : Nat) : List α := (xs.take k).map f ++ xs.drop k
theorem upTo_zero (xs : List α) : upTo f xs 0 = xs := by simp [upTo]
theorem upTo_all (xs : List α) : upTo f xs xs.length = xs.map f := by simp [upTo]
theorem length_upTo (xs : List α) (k : Nat) : (upTo f xs k).length = xs.length := by simp [upTo]; omega
theorem upTo_get (xs : List α) (k : Nat) (x : α) (h : xs[k]? = some x) : (upTo f xs k)[k]? = some x := by
  have hk := (List.getElem?_eq_some_iff.1 h).1
  rw [upTo, List.getElem?_append_right (by simp; omega)]
  simp
  rw [show k - min k xs.length = 0 by omega]
  simpa using h
theorem upTo_step (xs : List α) (k : Nat) (x : α) (h : xs[k]? = some x) : (upTo f xs k).set k (f x) = upTo f xs (k + 1) := by
  have hk := (List.getElem?_eq_some_iff.1 h).1
  apply List.ext_getElem?
  intro i
  have e : xs[k] = x := by rw [List.getElem?_eq_getElem hk] at h; exact Option.some.inj h
  unfold upTo
  rw [take_snoc_of xs k x h]
  by_cases hi : i = k
  · subst hi
    rw [List.getElem?_set_self (by simp; omega)]
    rw [List.getElem?_append_left (by simp; omega), List.map_append, List.getElem?_append_right (by simp; omega)]
    simp
    rw [show i - min i xs.length = 0 by omega]
    rfl
  · rw [List.getElem?_set_ne (by omega)]
    by_cases hlt : i < k
    · rw [List.getElem?_append_left (by simp; omega), List.getElem?_append_left (by simp; omega), List.map_append, List.getElem?_append_left (by simp; omega)]
    · rw [List.getElem?_append_right (by simp; omega), List.getElem?_append_right (by simp; omega)]
      simp
      congr 1
      omega
end
def iota (n : Nat) : List Int := (List.range n).map (fun (i : Nat) => (i : Int))
theorem length_iota (n : Nat) : (iota n).length = n := by simp [iota]
theorem iota_get (n i : Nat) (h : i < n) : (iota n)[i]? = some (i : Int) := by simp [iota, h]
theorem mem_iota (n : Nat) (z : Int) : z ∈ iota n ↔ 0 ≤ z ∧ z < n := by
  simp only [iota, List.mem_map, List.mem_range]
  constructor
  · rintro ⟨i, hi, rfl⟩; omega
  · intro h; exact ⟨z.toNat, by omega, by omega⟩
theorem pairwise_iota (n : Nat) : (iota n).Pairwise (fun x y => decide (x ≤ y) = true) := by
  rw [List.pairwise_iff_getElem]
  intro i j hi hj hij
  simp [iota]; omega
theorem nodup_iota (n : Nat) : (iota n).Nodup := by
  unfold List.Nodup
  rw [List.pairwise_iff_getElem]
  intro i j hi hj hij
  simp [iota]; omega
theorem perm_of_nodup : ∀ (l r : List Int), l.Nodup → (∀ z ∈ l, z ∈ r) → r.length ≤ l.length → l.Perm r
  | [], r, _, _, h => by
    have : r = [] := List.eq_nil_of_length_eq_zero (by simpa using h)
    subst this; exact List.Perm.nil
  | a :: l, r, hn, hs, h => by
    rw [List.nodup_cons] at hn
    have ha : a ∈ r := hs a (by simp)
    have hp := List.perm_cons_erase ha
    refine (List.Perm.cons a (perm_of_nodup l (r.erase a) hn.2 (fun z hz => ?_) ?_)).trans hp.symm
    · rw [List.mem_erase_of_ne (fun e => hn.1 (by rw [← e]; exact hz))]
      exact hs z (by simp [hz])
    · rw [List.length_erase_of_mem ha]; simp at h; omega
def permB (zs : List Int) (n : Int) : Bool := decide ((zs.length : Int) = n ∧ zs.Nodup ∧ ∀ z ∈ zs, 0 ≤ z ∧ z < n)
theorem permB_iff {zs : List Int} {n : Int} : permB zs n = true ↔ ((zs.length : Int) = n ∧ zs.Nodup ∧ ∀ z ∈ zs, 0 ≤ z ∧ z < n) := by simp [permB]
theorem permB_perm {zs : List Int} {n : Int} (h : permB zs n = true) : zs.Perm (iota zs.length) := by
  obtain ⟨h1, h2, h3⟩ := permB_iff.1 h
  refine perm_of_nodup _ _ h2 (fun z hz => ?_) (by rw [length_iota]; exact Nat.le_refl _)
  rw [mem_iota, h1]; exact h3 z hz
def srt (zs : List Int) : List Int := zs.mergeSort (fun x y => decide (x ≤ y))
theorem length_srt (zs : List Int) : (srt zs).length = zs.length := by simp [srt]
theorem srt_perm (zs : List Int) : (srt zs).Perm zs := List.mergeSort_perm _ _
theorem srt_pairwise (zs : List Int) : (srt zs).Pairwise (fun x y => decide (x ≤ y) = true) :=
  List.pairwise_mergeSort (fun a b c h1 h2 => by simp at *; omega) (fun a b => by simp; omega) zs
theorem srt_of_perm {xs ys : List Int} (h : xs.Perm ys) (hy : ys.Pairwise (fun x y => decide (x ≤ y) = true)) : srt xs = ys :=
  List.Perm.eq_of_pairwise (fun a b _ _ h1 h2 => by simp at h1 h2; omega) (srt_pairwise xs) hy ((srt_perm xs).trans h)
theorem srt_permB {zs : List Int} {n : Int} (h : permB zs n = true) : srt zs = iota zs.length := srt_of_perm (permB_perm h) (pairwise_iota _)
theorem permB_srt_no {zs : List Int} {n : Int} {k : Nat} {v : Int} (hk : (srt zs)[k]? = some v) (hne : v ≠ k) : permB zs n = false := by
  cases h : permB zs n with
  | false => rfl
  | true =>
    have hl := (List.getElem?_eq_some_iff.1 hk).1
    rw [length_srt] at hl
    rw [srt_permB h, iota_get _ _ hl] at hk
    cases hk; exact absurd rfl hne
theorem permB_srt_all {zs : List Int} {n : Int} (h : ∀ (k : Nat) v, (srt zs)[k]? = some v → v = k) : permB zs n = decide ((zs.length : Int) = n) := by
  have e : srt zs = iota zs.length := by
    apply List.ext_getElem?
    intro k
    by_cases hk : k < zs.length
    · rw [iota_get _ _ hk, List.getElem?_eq_getElem (by rw [length_srt]; exact hk)]
      rw [h k _ (List.getElem?_eq_getElem (by rw [length_srt]; exact hk))]
    · rw [List.getElem?_eq_none (by rw [length_srt]; omega), List.getElem?_eq_none (by rw [length_iota]; omega)]
  by_cases hn : (zs.length : Int) = n
  · rw [decide_eq_true hn, permB_iff]
    have hp : zs.Perm (iota zs.length) := by rw [← e]; exact (srt_perm zs).symm
    refine ⟨hn, hp.nodup_iff.2 (nodup_iota _), fun z hz => ?_⟩
    have := (mem_iota _ _).1 (hp.mem_iff.1 hz)
    omega
  · rw [decide_eq_false hn]
    cases h' : permB zs n with
    | false => rfl
    | true => exact absurd (permB_iff.1 h').1 hn
theorem permB_out {zs : List Int} {n z : Int} (hz : z ∈ zs) (h : ¬ (0 ≤ z ∧ z < n)) : permB zs n = false := by
  cases h' : permB zs n with
  | false => rfl
  | true => exact absurd ((permB_iff.1 h').2.2 z hz) h
theorem permB_dup {zs : List Int} {n z : Int} {i j : Nat} (hij : i < j) (hi : zs[i]? = some z) (hj : zs[j]? = some z) : permB zs n = false := by
  cases h' : permB zs n with
  | false => rfl
  | true =>
    have h2 := (permB_iff.1 h').2.1
    unfold List.Nodup at h2
    rw [List.pairwise_iff_getElem] at h2
    obtain ⟨li, ei⟩ := List.getElem?_eq_some_iff.1 hi
    obtain ⟨lj, ej⟩ := List.getElem?_eq_some_iff.1 hj
    exact absurd (ei.trans ej.symm) (h2 i j li lj hij)
theorem permB_all {zs : List Int} {n : Int} (h1 : ∀ z ∈ zs, 0 ≤ z ∧ z < n) (h2 : ∀ (i j : Nat) z, i < j → zs[i]? = some z → zs[j]? = some z → False) : permB zs n = decide ((zs.length : Int) = n) := by
  by_cases hn : (zs.length : Int) = n
  · rw [decide_eq_true hn, permB_iff]
    refine ⟨hn, ?_, h1⟩
    unfold List.Nodup
    rw [List.pairwise_iff_getElem]
    intro i j li lj hij e
    exact h2 i j zs[i] hij (List.getElem?_eq_getElem li) (by rw [e]; exact List.getElem?_eq_getElem lj)
  · rw [decide_eq_false hn]
    cases h' : permB zs n with
    | false => rfl
    | true => exact absurd (permB_iff.1 h').1 hn
def invTo (zs : List Int) : Nat → List Int
  | 0 => List.replicate zs.length 0
  | k + 1 => (invTo zs k).set (zs.getD k 0).toNat k
def invS (zs : List Int) : List Int := invTo zs zs.length
theorem length_invTo (zs : List Int) (k : Nat) : (invTo zs k).length = zs.length := by
  induction k with
  | zero => simp [invTo]
  | succ k ih => simp [invTo, ih]
theorem length_invS (zs : List Int) : (invS zs).length = zs.length := length_invTo _ _
theorem invTo_step (zs : List Int) (k : Nat) (z : Int) (h : zs[k]? = some z) : invTo zs (k + 1) = (invTo zs k).set z.toNat k := by
  simp [invTo, List.getD, h]
theorem invTo_get {zs : List Int} {n : Int} (hp : permB zs n = true) (k i : Nat) (z : Int) (hik : i < k) (hk : k ≤ zs.length) (hz : zs[i]? = some z) : (invTo zs k)[z.toNat]? = some (i : Int) := by
  obtain ⟨h1, h2, h3⟩ := permB_iff.1 hp
  induction k with
  | zero => omega
  | succ k ih =>
    obtain ⟨y, hy⟩ : ∃ y, zs[k]? = some y := ⟨zs[k], List.getElem?_eq_getElem (by omega)⟩
    rw [invTo_step zs k y hy]
    have hzr := h3 z (List.mem_of_getElem? hz)
    have hyr := h3 y (List.mem_of_getElem? hy)
    by_cases e : i = k
    · subst e
      rw [hz] at hy; cases hy
      rw [List.getElem?_set_self (by rw [length_invTo]; omega)]
    · have hne : y.toNat ≠ z.toNat := by
        intro e'
        have : y = z := by omega
        subst this
        have := permB_dup (n := n) (show i < k by omega) hz hy
        rw [this] at hp; cases hp
      rw [List.getElem?_set_ne hne]
      exact ih (by omega) (by omega)
theorem invS_get {zs : List Int} {n : Int} (hp : permB zs n = true) (i : Nat) (z : Int) (hz : zs[i]? = some z) : (invS zs)[z.toNat]? = some (i : Int) :=
  invTo_get hp _ i z (List.getElem?_eq_some_iff.1 hz).1 (Nat.le_refl _) hz
theorem permB_has {zs : List Int} {n : Int} (hp : permB zs n = true) (k : Int) (h0 : 0 ≤ k) (h1 : k < n) : ∃ i : Nat, zs[i]? = some k := by
  have := (permB_perm hp).mem_iff (a := k)
  rw [mem_iota] at this
  have hl := (permB_iff.1 hp).1
  obtain ⟨i, hi, e⟩ := List.mem_iff_getElem.1 (this.2 ⟨h0, by omega⟩)
  exact ⟨i, by rw [List.getElem?_eq_getElem hi, e]⟩
theorem invS_inv {zs : List Int} {n : Int} (hp : permB zs n = true) (k : Nat) (hk : (k : Int) < n) : ∃ i : Nat, (invS zs)[k]? = some (i : Int) ∧ zs[i]? = some (k : Int) := by
  obtain ⟨i, hi⟩ := permB_has hp k (by omega) hk
  have := invS_get hp i k hi
  exact ⟨i, by simpa using this, hi⟩
theorem permB_invS {zs : List Int} {n : Int} (hp : permB zs n = true) : permB (invS zs) n = true := by
  obtain ⟨h1, h2, h3⟩ := permB_iff.1 hp
  have hl := length_invS zs
  have key : ∀ (k : Nat) v, (invS zs)[k]? = some v → ∃ i : Nat, v = i ∧ zs[i]? = some (k : Int) := by
    intro k v hv
    have hk := (List.getElem?_eq_some_iff.1 hv).1
    obtain ⟨i, e1, e2⟩ := invS_inv hp k (by omega)
    rw [e1] at hv; cases hv
    exact ⟨i, rfl, e2⟩
  rw [permB_all, hl, decide_eq_true h1]
  · intro z hz
    obtain ⟨k, hk, e⟩ := List.mem_iff_getElem.1 hz
    obtain ⟨i, e1, e2⟩ := key k z (by rw [List.getElem?_eq_getElem hk, e])
    have := (List.getElem?_eq_some_iff.1 e2).1
    omega
  · intro a b z hab ha hb
    obtain ⟨i, e1, e2⟩ := key a z ha
    obtain ⟨j, e3, e4⟩ := key b z hb
    have : i = j := by omega
    subst this
    rw [e2] at e4; simp at e4; omega
def thruS (zs ys : List Int) : List Int := zs.map fun z => ys.getD z.toNat 0
theorem length_thruS (zs ys : List Int) : (thruS zs ys).length = zs.length := by simp [thruS]
theorem thru_inv {zs : List Int} {n : Int} (hp : permB zs n = true) : thruS zs (invS zs) = iota zs.length := by
  apply List.ext_getElem?
  intro i
  by_cases hi : i < zs.length
  · rw [iota_get _ _ hi]
    have hz : zs[i]? = some zs[i] := List.getElem?_eq_getElem hi
    have := invS_get hp i zs[i] hz
    simp [thruS, List.getD, hz, this]
  · rw [List.getElem?_eq_none (by rw [length_thruS]; omega), List.getElem?_eq_none (by rw [length_iota]; omega)]
theorem inv_thru {zs : List Int} {n : Int} (hp : permB zs n = true) : thruS (invS zs) zs = iota zs.length := by
  apply List.ext_getElem?
  intro i
  have hl := length_invS zs
  have hn := (permB_iff.1 hp).1
  by_cases hi : i < zs.length
  · rw [iota_get _ _ hi]
    obtain ⟨j, e1, e2⟩ := invS_inv hp i (by omega)
    simp [thruS, List.getD, e1, e2]
  · rw [List.getElem?_eq_none (by rw [length_thruS, hl]; omega), List.getElem?_eq_none (by rw [length_iota]; omega)]
/- A slice of int64 that grows in memory of the call's own. -/
def icells (zs : List Int) : List Value := zs.map (Value.int .i64)
theorem icells_push (zs ys : List Int) : icells (zs ++ ys) = icells zs ++ icells ys := by simp [icells]
def BldI (w : World) (lo hi : Nat) (v : Value) (zs : List Int) : Prop := hi ≤ w.heap.size ∧ w.ownsRow lo 2 1 v zs.length (icells zs) ∧ (∀ g, v.ownBlock = some g → lo ≤ g ∧ g < hi)
section
variable {w w' : World} {lo hi : Nat} {v : Value} {zs : List Int}
theorem BldI.nil (w : World) (lo : Nat) : BldI w lo w.heap.size (.slice none 0 0) [] :=
  ⟨Nat.le_refl _, World.ownsRow_nil w lo _ 1, by intro g h; cases h⟩
theorem BldI.lit {g : Nat} {cs : Array Value} (h : Blk w g cs 2) (hcs : cs.toList = icells zs) (hm : zs.length ≤ 1048576) (hlo : lo ≤ g) (hhi : g < hi) (hs : hi ≤ w.heap.size) : BldI w lo hi (.slice (some ⟨g, 0, none⟩) zs.length zs.length) zs := by
  have hl : cs.size = zs.length := by rw [← Array.length_toList, hcs]; simp [icells]
  refine ⟨hs, ⟨by simp [icells], .inr ⟨g, zs.length, cs, rfl, hlo, h, Nat.le_refl _, by unfold maxLen; omega, by omega, ?_⟩⟩, ?_⟩
  · rw [hcs, Nat.mul_one, List.take_of_length_le (by simp [icells])]
  · intro g' hg'
    have : g = g' := by injection hg'
    omega
theorem BldI.by (hb : Below w.heap.size w w') (h : BldI w lo hi v zs) : BldI w' lo hi v zs := by
  obtain ⟨hs, h1, h3⟩ := h
  exact ⟨Nat.le_trans hs hb.size, row_same h1 (fun g hg => hb.block g (by have := h3 g hg; omega)), h3⟩
theorem BldI.past {lo' hi' : Nat} (hb : Within lo' hi' w w') (h : BldI w lo hi v zs) (hd : hi' ≤ lo ∨ hi ≤ lo') : BldI w' lo hi v zs := by
  obtain ⟨hs, h1, h3⟩ := h
  exact ⟨Nat.le_trans hs hb.size, row_same h1 (fun g hg => hb.block g (by have := h3 g hg; omega) (by have := h3 g hg; omega)), h3⟩
theorem BldI.sized (h : BldI w lo hi v zs) : ∃ a c, v = .slice a zs.length c := by
  obtain ⟨_, ⟨_, h1⟩, _⟩ := h
  rcases h1 with ⟨h1, h2⟩ | ⟨g, cap, cur, e1, _⟩
  · exact ⟨none, 0, by rw [h1, h2]⟩
  · exact ⟨_, _, e1⟩
theorem BldI.own (h : BldI w lo hi v zs) : OwnR w lo hi v zs := by
  obtain ⟨hs, ⟨hlen, h1⟩, h3⟩ := h
  rcases h1 with ⟨h1, hn⟩ | ⟨g, cap, cur, e1, e2, e3, e4, e5, e6, e7⟩
  · exact .inl ⟨_, _, h1, List.eq_nil_of_length_eq_zero hn⟩
  · have h4 := h3 g (by rw [e1]; rfl)
    refine .inr ⟨g, cap, cur, e1, h4.1, h4.2, e4, e5, e3, fun i x hx => ?_⟩
    have hi' : i < zs.length := (List.getElem?_eq_some_iff.1 hx).1
    have : (icells zs)[i]? = some (.int .i64 x) := by simp [icells, hx]
    rw [← e7, List.getElem?_take_of_lt (by omega)] at this
    simpa using this
end
theorem step_pushI {ops : Array Oper} {o : Oper} {a : Act} {w : World} {K : Act → World → Prop} {Q : Exit → Act → World → Prop} {E : Prop} (hgd : o.guard = none) (s x : Operand)
    (ho : o.op = .call { callee := .builtin .append, args := #[s, x], argTypes := #[27, 27] })
    (lo hi : Nat) (v : Value) (zs ys : List Int) (hs : a.eval s = v) (hB : BldI w lo hi v zs) (nb m : Nat) (cs : Array Value) (hx : a.eval x = .slice (some ⟨nb, 0, none⟩) m m) (hys : ys.length = m) (hm : 0 < m)
    (hnb : Blk w nb cs 2) (hcs : cs.toList = icells ys) (hlo : lo ≤ hi) (hn : zs.length + m ≤ 8000000)
    (hK : ∀ a' c' w', BldI w' lo w'.heap.size (.slice a' (zs.length + m) c') (zs ++ ys) → Within lo hi w w' → K (a.put o.dst (.slice a' (zs.length + m) c')) w') :
    if Region.wanted o (yielded ops a.tmps) = true then Oper.wp Tryz.prog o a w K Q else E := by
  obtain ⟨i0, hi0, hz0, hz1, hz2⟩ := info_parts infoI
  obtain ⟨hsz, h1, h3⟩ := hB
  refine step_append_lies w hgd s x 27 ho lo 2 i0 _ 1 8 Tryz.underlying27 hi0 hz0 hz1 hz2 rfl (by decide) v zs.length _ hs h1 ⟨nb, 0, none⟩ m m (icells ys) hx (by simp [icells, hys]) (by rw [← hcs]; exact World.news_of_block (cs := cs) hnb) ?_ hm (by unfold maxLen; omega) (by omega) (by omega) w.heap.size rfl ?_
  · intro u hu
    simp only [icells, List.mem_map] at hu
    obtain ⟨_, _, rfl⟩ := hu
    rfl
  · intro g cap w' hrow hgrow hg hgl
    have hW : Within lo hi w w' := grown_within hgrow h3
    refine hK (some ⟨g, 0, none⟩) cap w' ⟨Nat.le_refl _, ?_, ?_⟩ hW
    · rw [List.length_append, hys, icells_push]; exact hrow
    · intro g' hg'
      have : g = g' := by injection hg'
      subst this
      rcases hg with h | h
      · have := h3 g h; omega
      · omega
theorem list_pushI {ops : Array Oper} {rest : List Oper} {o : Oper} {a : Act} {w : World} {Q : Exit → Act → World → Prop} (hgd : o.guard = none) (s x : Operand)
    (ho : o.op = .call { callee := .builtin .append, args := #[s, x], argTypes := #[27, 27] })
    (lo hi : Nat) (v : Value) (zs ys : List Int) (hs : a.eval s = v) (hB : BldI w lo hi v zs) (nb m : Nat) (cs : Array Value) (hx : a.eval x = .slice (some ⟨nb, 0, none⟩) m m) (hys : ys.length = m) (hm : 0 < m)
    (hnb : Blk w nb cs 2) (hcs : cs.toList = icells ys) (hlo : lo ≤ hi) (hn : zs.length + m ≤ 8000000)
    (hK : ∀ a' c' w', BldI w' lo w'.heap.size (.slice a' (zs.length + m) c') (zs ++ ys) → Within lo hi w w' → wpList Tryz.prog ops Q rest (a.put o.dst (.slice a' (zs.length + m) c')) w') : wpList Tryz.prog ops Q (o :: rest) a w :=
  wpList_plain hgd fun K hk => by
    have h := step_pushI (ops := ops) (K := K) (Q := Q) (E := False) hgd s x ho lo hi v zs ys hs hB nb m cs hx hys hm hnb hcs hlo hn (fun a' c' w' h1 h2 => hk _ _ (hK a' c' w' h1 h2))
    rwa [if_pos (by simp [Region.wanted, hgd])] at h
end Go.Proofs.YtifbffianbgeaaaGreat
