/- The reference's NormalizeDevice: one contract. -/
import Derived.Test.YtjldkejegdljiaaNormB
namespace Go.Proofs.Ytjldkejegdljiaa
open Go.RowKit
set_option linter.unusedVariables false
set_option linter.unusedSimpArgs false

theorem pinc_cases (kind : Int) (h : 0 < pinc kind) : pinc kind = 3 ∨ pinc kind = 2 := by
  unfold pinc at *
  (repeat' split) <;> simp_all
theorem length_normz (kind : Int) (zs : List Int) : (normz kind zs).length = zs.length := by
  unfold normz
  split
  · unfold lastTwo; split <;> simp
  · rfl
theorem normz_no {kind : Int} {zs : List Int} (h : ¬ (0 < pinc kind ∧ (zs.length : Int) = pinc kind)) : normz kind zs = zs := by
  unfold normz; rw [if_neg h]
theorem normz_yes {kind : Int} {zs : List Int} (h : 0 < pinc kind ∧ (zs.length : Int) = pinc kind) : (∃ p q, zs = [p, q] ∧ pinc kind = 2 ∧ normz kind zs = [min p q, max p q]) ∨ ∃ r p q, zs = [r, p, q] ∧ pinc kind = 3 ∧ normz kind zs = [r, min p q, max p q] := by
  have e : normz kind zs = lastTwo zs := by unfold normz; rw [if_pos h]
  rw [e]
  rcases pinc_cases kind h.1 with h3 | h2
  · right
    rw [h3] at h
    match zs, h with
    | [r, p, q], _ => exact ⟨r, p, q, rfl, h3, rfl⟩
    | [], h => simp at h
    | [_], h => simp at h
    | [_, _], h => simp at h
    | _ :: _ :: _ :: _ :: _, h => simp at h; omega
  · left
    rw [h2] at h
    match zs, h with
    | [p, q], _ => exact ⟨p, q, rfl, h2, rfl⟩
    | [], h => simp at h
    | [_], h => simp at h
    | _ :: _ :: _ :: _, h => simp at h; omega

theorem specNorm_any (kind wd len : Int) (sv : Value) (zs : List Int) (w : World) (h : IntSl w sv zs) (hn : zs.length ≤ 1048576) :
    Calls Try.prog 85 #[.agg #[.int .i64 kind, sv, .int .i64 wd, .int .i64 len]] w fun e w' => ∃ v, e = .returned (.agg #[.int .i64 kind, v, .int .i64 wd, .int .i64 len]) ∧ OwnI w' w.heap.size v (normz kind zs) ∧ Below w.heap.size w w' := by
  by_cases hs : 0 < pinc kind ∧ (zs.length : Int) = pinc kind
  · rcases normz_yes hs with ⟨p, q, rfl, hk, e⟩ | ⟨r, p, q, rfl, hk, e⟩
    · rw [e]; exact specNorm_two kind wd len sv p q w h hk
    · rw [e]; exact specNorm_three kind wd len sv r p q w h hk
  · rw [normz_no hs]; exact specNorm_no kind wd len sv zs w h hn hs
end Go.Proofs.Ytjldkejegdljiaa
