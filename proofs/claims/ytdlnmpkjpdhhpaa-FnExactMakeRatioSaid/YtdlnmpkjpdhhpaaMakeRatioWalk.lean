/- The walk of FnExactMakeRatio. -/
import Derived.Test.YtdlnmpkjpdhhpaaMake
import Derived.Test.YtdlnmpkjpdhhpaaOpen
namespace Go.Proofs.Ytdlnmpkjpdhhpaa.fnExactMakeRatio
open Go.RowKit Go.Proofs.Ytdlnmpkjpdhhpaa

set_option maxHeartbeats 1000000 in
theorem walk (v0 v1 : Value) (w : World) (n : Int) (w0 : IsI64 v0 n) (d : Int) (w1 : IsI64 v1 d) :
    Calls Try.prog 3 #[v0, v1] w fun e w' => e = .returned (.bool true) ∧ Below w.heap.size w w' := by
  obtain ⟨rfl, hn, hn'⟩ := w0
  obtain ⟨rfl, hd, hd'⟩ := w1
  go_enter Try.func3, Try.ntmps3
  go_wp2_with (first | (go_at_call 15; refine (specMake_any n d _ hn hn' hd hd').mono ?_; rintro e w1 ⟨rfl, hb1⟩; obtain ⟨hc1, hf1⟩ := bcell hb1; have hz1 := hb1.size; (try simp at hz1); (try have hl1 := Nat.lt_of_succ_le hz1); (try have hm1 := Nat.lt_of_succ_lt hl1); (try have hn1_ := Nat.lt_of_succ_lt hm1); (try have ho1 := Nat.lt_of_succ_lt hn1_)) | (go_at_call 16; refine (implMake_any n d _ hn hn' hd hd').mono ?_; rintro e w2 ⟨rfl, hb2⟩; obtain ⟨hc2, hf2⟩ := bcell hb2; have hz2 := hb2.size; (try simp at hz2); (try have hl2 := Nat.lt_of_succ_le hz2); (try have hm2 := Nat.lt_of_succ_lt hl2); (try have hn2_ := Nat.lt_of_succ_lt hm2); (try have ho2 := Nat.lt_of_succ_lt hn2_)) | (go_at_call 17; refine (eqRatio_refl _ _ _).mono ?_; rintro e w3 ⟨rfl, hb3⟩; obtain ⟨hc3, hf3⟩ := bcell hb3; have hz3 := hb3.size; (try simp at hz3); (try have hl3 := Nat.lt_of_succ_le hz3); (try have hm3 := Nat.lt_of_succ_lt hl3); (try have hn3_ := Nat.lt_of_succ_lt hm3); (try have ho3 := Nat.lt_of_succ_lt hn3_)))
  go_ret
  exact ⟨rfl, (by repeat (first | exact Below.refl _ _ | refine below_drewN ?_ _ | refine Below.drew ?_ | refine Below.setCell ?_ (by first | omega | (simp; done) | (simp; omega)) _ | refine Below.alloc ?_ (by first | omega | (simp; done) | (simp; omega)) _ | refine below_by (by assumption) ?_ (by first | omega | (simp; done) | (simp; omega))))⟩
end Go.Proofs.Ytdlnmpkjpdhhpaa.fnExactMakeRatio
