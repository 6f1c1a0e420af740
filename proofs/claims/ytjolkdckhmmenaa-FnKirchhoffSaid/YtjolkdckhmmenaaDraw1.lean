/- The draws of orders and matchings: any list of some length. -/
import Derived.Test.YtjolkdckhmmenaaSrc
import Derived.Test.YtjolkdckhmmenaaOrdB
import Derived.Test.YtjolkdckhmmenaaDevs
import Derived.Test.YtjolkdckhmmenaaBase
import Derived.BigRegion
namespace Go.Proofs.Ytjolkdckhmmenaa
open Go.RowKit
set_option linter.unusedVariables false
set_option linter.unusedSimpArgs false

theorem icells_set (zs : List Int) (i : Nat) (y : Int) : icells (zs.set i y) = (icells zs).set i (.int .i64 y) := by simp [icells, List.map_set]
/-- One number of a growing slice turned in place. -/
theorem BldI.setAt {w : World} {lo hi G n cap : Nat} {zs : List Int} (h : BldI w lo hi (.slice (some ⟨G, 0, none⟩) n cap) zs) (i : Nat) (y : Int) : BldI (w.setCell ⟨G, i, none⟩ (.int .i64 y)) lo hi (.slice (some ⟨G, 0, none⟩) n cap) (zs.set i y) := by
  obtain ⟨hs, ⟨hlen, r⟩, h3⟩ := h
  refine ⟨by simpa using hs, ⟨by simp [icells], ?_⟩, h3⟩
  rcases r with ⟨r1, _⟩ | ⟨g, cap', cur, e1, e2, e3, e4, e5, e6, e7⟩
  · cases r1
  · have hg : G = g := by have := congrArg Value.ownBlock e1; simpa [Value.ownBlock] using this
    subst hg
    refine .inr ⟨G, cap', cur.setIfInBounds i (.int .i64 y), by rw [List.length_set]; exact e1, e2, Blk.set e3 i _, by rw [List.length_set]; exact e4, e5, by simpa using e6, ?_⟩
    rw [icells_set, ← e7, List.length_set, Array.toList_setIfInBounds, List.take_set]
theorem BldI.blk {w : World} {lo hi : Nat} {v : Value} {zs : List Int} (h : BldI w lo hi v zs) (h0 : 0 < zs.length) :
    ∃ G cap cs, v = .slice (some ⟨G, 0, none⟩) zs.length cap ∧ (lo ≤ G ∧ G < hi) ∧ Blk w G cs 2 ∧ ∀ (i : Nat) z, zs[i]? = some z → w.cell? ⟨G, i, none⟩ = some (.int .i64 z) := by
  obtain ⟨hs, ⟨hlen, r⟩, h3⟩ := h
  rcases r with ⟨_, r1⟩ | ⟨g, cap', cur, rfl, e2, e3, e4, e5, e6, e7⟩
  · omega
  · refine ⟨g, cap', cur, rfl, h3 g rfl, e3, fun i z hz => ?_⟩
    have hi : i < zs.length := (List.getElem?_eq_some_iff.1 hz).1
    have : (icells zs)[i]? = some (.int .i64 z) := by simp [icells, hz]
    rw [← e7, List.getElem?_take_of_lt (by omega)] at this
    rw [Blk.cell e3]
    simpa using this

theorem Only.within {g : Nat} {w w' : World} (h : Only g w w') : Within g (g + 1) w w' := ⟨h.os, h.tape, h.output, Nat.le_of_eq h.size.symm, fun k _ hne => h.block k (by omega)⟩
theorem BldI.only {g : Nat} {w w' : World} {lo hi : Nat} {v : Value} {zs : List Int} (ho : Only g w w') (h : BldI w lo hi v zs) (hg : g < lo) : BldI w' lo hi v zs := BldI.past ho.within h (.inl (by omega))

end Go.Proofs.Ytjolkdckhmmenaa
