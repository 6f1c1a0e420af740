/- The program's NormalizeDevice: one contract. -/
import Derived.Test.YtjanifoipbmkhaaGreatNormB
import Derived.Test.YtjanifoipbmkhaaGreatNormI
namespace Go.Proofs.YtjanifoipbmkhaaGreat
open Go.RowKit
set_option linter.unusedVariables false
set_option linter.unusedSimpArgs false


theorem implNorm_any (kind wd len : Int) (sv : Value) (zs : List Int) (w : World) (h : IntSl w sv zs) (hn : zs.length ≤ 1048576) :
    Calls Tryz.prog 27 #[.agg #[.int .i64 kind, sv, .int .i64 wd, .int .i64 len]] w fun e w' => ∃ v, e = .returned (.agg #[.int .i64 kind, v, .int .i64 wd, .int .i64 len]) ∧ OwnI w' w.heap.size v (normz kind zs) ∧ Below w.heap.size w w' := by
  by_cases hs : 0 < pinc kind ∧ (zs.length : Int) = pinc kind
  · rcases normz_yes hs with ⟨p, q, rfl, hk, e⟩ | ⟨r, p, q, rfl, hk, e⟩
    · rw [e]; exact implNorm_two kind wd len sv p q w h hk
    · rw [e]; exact implNorm_three kind wd len sv r p q w h hk
  · rw [normz_no hs]; exact implNorm_no kind wd len sv zs w h hn hs
end Go.Proofs.YtjanifoipbmkhaaGreat
