/- Marking slices of the call's own. -/
import Derived.Test.YtpaiiaajbojmnaaGreatNorms
import Derived.BigRegion
namespace Go.Proofs.YtpaiiaajbojmnaaGreat
open Go.RowKit
set_option linter.unusedVariables false
set_option linter.unusedSimpArgs false

/-- Of the blocks that there were, those from lo on and below hi alone may have turned. -/
structure Within (lo hi : Nat) (w w' : World) : Prop where
  os : w'.os = w.os
  tape : w'.tape = w.tape
  output : w'.output = w.output
  size : w.heap.size ≤ w'.heap.size
  block : ∀ k, k < w.heap.size → (k < lo ∨ hi ≤ k) → w'.heap[k]? = w.heap[k]?
section
variable {lo hi : Nat} {a w w' : World}
theorem Within.refl (lo hi : Nat) (w : World) : Within lo hi w w := ⟨rfl, rfl, rfl, Nat.le_refl _, fun _ _ _ => rfl⟩
theorem Within.set (h : Within lo hi a w) (g o : Nat) (v : Value) (h1 : lo ≤ g) (h2 : g < hi) : Within lo hi a (w.setCell ⟨g, o, none⟩ v) :=
  ⟨h.os, h.tape, h.output, by simp [World.setCell]; exact h.size, fun k hk hk' => (Below.heap_setCell w ⟨g, o, none⟩ v k (by simp; omega)).trans (h.block k hk hk')⟩
theorem Within.new (h : Within lo hi a w) (g o : Nat) (v : Value) (h1 : a.heap.size ≤ g) : Within lo hi a (w.setCell ⟨g, o, none⟩ v) :=
  ⟨h.os, h.tape, h.output, by simp [World.setCell]; exact h.size, fun k hk hk' => (Below.heap_setCell w ⟨g, o, none⟩ v k (by simp; omega)).trans (h.block k hk hk')⟩
theorem Within.alloc (h : Within lo hi a w) (o : Obj) : Within lo hi a (w.alloc o) :=
  ⟨h.os, h.tape, h.output, by have := h.size; simp; omega, fun k hk hk' => (Below.heap_alloc w o k (by have := h.size; omega)).trans (h.block k hk hk')⟩
theorem Within.drewN (h : Within lo hi a w) (n : Nat) : Within lo hi a (w.drewN n) := ⟨h.os, h.tape, h.output, h.size, h.block⟩
theorem Within.on (h : Within lo hi a w) (h' : Within lo hi w w') : Within lo hi a w' :=
  ⟨h'.os.trans h.os, h'.tape.trans h.tape, h'.output.trans h.output, Nat.le_trans h.size h'.size, fun k hk hk' => (h'.block k (Nat.lt_of_lt_of_le hk h.size) hk').trans (h.block k hk hk')⟩
theorem Within.blk {f : Nat} {cs : Array Value} {T : TypeId} (h : Within lo hi w w') (hf : Blk w f cs T) (hne : f < lo ∨ hi ≤ f) : Blk w' f cs T := (h.block f hf.lt hne).trans hf
theorem Within.below (h : Within lo hi w w') (hb : Below a.heap.size a w) (hl : a.heap.size ≤ lo) : Below a.heap.size a w' :=
  hb.trans ⟨h.os, h.tape, h.output, h.size, fun k hk => h.block k (Nat.lt_of_lt_of_le hk hb.size) (.inl (by omega))⟩

/-- A slice of the call's own in a block from lo on and below hi. -/
def OwnR (w : World) (lo hi : Nat) (sv : Value) (zs : List Int) : Prop :=
  (∃ a c, sv = .slice a 0 c ∧ zs = []) ∨ ∃ g cap, ∃ cs : Array Value, sv = .slice (some ⟨g, 0, none⟩) zs.length cap ∧ lo ≤ g ∧ g < hi ∧ zs.length ≤ cap ∧ cap ≤ maxLen ∧ Blk w g cs 2 ∧ ∀ (i : Nat) (x : Int), zs[i]? = some x → cs[i]? = some (Value.int .i64 x)
variable {sv : Value} {zs : List Int}
theorem OwnI.r (h : OwnI w lo sv zs) : OwnR w lo w.heap.size sv zs := by
  rcases h with h | ⟨g, cap, cs, h1, h2, h3, h4, h5, h6⟩
  · exact .inl h
  · exact .inr ⟨g, cap, cs, h1, h2, h5.lt, h3, h4, h5, h6⟩
theorem IBlk.r {g : Nat} (h : IBlk w g zs) (hm : zs.length ≤ 9223372036854775807) : OwnR w g (g + 1) (.slice (some ⟨g, 0, none⟩) zs.length zs.length) zs := by
  obtain ⟨cs, h1, h2, h3⟩ := h
  exact .inr ⟨g, _, cs, rfl, Nat.le_refl _, Nat.lt_succ_self _, Nat.le_refl _, by unfold maxLen; omega, h1, h3⟩
theorem OwnR.by (hb : Below w.heap.size w w') (h : OwnR w lo hi sv zs) : OwnR w' lo hi sv zs := by
  rcases h with h | ⟨g, cap, cs, h1, h2, h2', h3, h4, h5, h6⟩
  · exact .inl h
  · exact .inr ⟨g, cap, cs, h1, h2, h2', h3, h4, Blk.by hb h5, h6⟩
theorem OwnR.past {lo' hi' : Nat} (hb : Within lo' hi' w w') (h : OwnR w lo hi sv zs) (hd : hi ≤ lo' ∨ hi' ≤ lo) : OwnR w' lo hi sv zs := by
  rcases h with h | ⟨g, cap, cs, h1, h2, h2', h3, h4, h5, h6⟩
  · exact .inl h
  · exact .inr ⟨g, cap, cs, h1, h2, h2', h3, h4, hb.blk h5 (by omega), h6⟩
theorem OwnR.sl (h : OwnR w lo hi sv zs) : IntSl w sv zs := by
  rcases h with h | ⟨g, cap, cs, h1, h2, h2', h3, h4, h5, h6⟩
  · exact .inl h
  · exact .inr ⟨g, 0, cap, h1, h3, h4, fun i x hx => by rw [Nat.zero_add, h5.cell]; exact h6 i x hx⟩
end

end Go.Proofs.YtpaiiaajbojmnaaGreat

/- The reference's NormalizeDevice: one contract. -/
namespace Go.Proofs.YtpaiiaajbojmnaaGreat
open Go.RowKit
set_option linter.unusedVariables false
set_option linter.unusedSimpArgs false

theorem pinc_cases (kind : Int) (h : 0 < pinc kind) : pinc kind = 3 ∨ pinc kind = 2 := by
  unfold pinc at *
  (repeat' split) <;> simp_all
theorem length_normz (kind : Int) (zs : List Int) : (normz kind zs).length = zs.length := by
  unfold normz
  split
  · unfold lastTwo; split <;> simp
  · rfl
theorem normz_no {kind : Int} {zs : List Int} (h : ¬ (0 < pinc kind ∧ (zs.length : Int) = pinc kind)) : normz kind zs = zs := by
  unfold normz; rw [if_neg h]
theorem normz_yes {kind : Int} {zs : List Int} (h : 0 < pinc kind ∧ (zs.length : Int) = pinc kind) : (∃ p q, zs = [p, q] ∧ pinc kind = 2 ∧ normz kind zs = [min p q, max p q]) ∨ ∃ r p q, zs = [r, p, q] ∧ pinc kind = 3 ∧ normz kind zs = [r, min p q, max p q] := by
  have e : normz kind zs = lastTwo zs := by unfold normz; rw [if_pos h]
  rw [e]
  rcases pinc_cases kind h.1 with h3 | h2
  · right
    rw [h3] at h
    match zs, h with
    | [r, p, q], _ => exact ⟨r, p, q, rfl, h3, rfl⟩
    | [], h => simp at h
    | [_], h => simp at h
    | [_, _], h => simp at h
    | _ :: _ :: _ :: _ :: _, h => simp at h; omega
  · left
    rw [h2] at h
    match zs, h with
    | [p, q], _ => exact ⟨p, q, rfl, h2, rfl⟩
    | [], h => simp at h
    | [_], h => simp at h
    | _ :: _ :: _ :: _, h => simp at h; omega

end Go.Proofs.YtpaiiaajbojmnaaGreat
