/- The reference's l27Line: all its ways joined. -/
import Derived.Test.YtglddnkpccgchaaDoorSpecLd
namespace Go.Proofs.YtglddnkpccgchaaDoor
open Go.RowKit
set_option linter.unusedVariables false
theorem l27Line_any (x : Nl) (v wv : Value) (ws : List ByteArray) (w : World) (h : NlV w v x) (hw : StrSl w wv ws) (h0 : ws ≠ []) (hs : ∀ s ∈ ws, s.size ≤ 1048576) (hl : ws.length ≤ 1048577) (hd50 : x.ds.length ≤ 50) (hp50 : x.ps.length ≤ 50) :
    Calls Tryd.prog 33 #[v, wv] w fun e w' => ∃ v', e = .returned (.tuple #[v', .bool (lineL false x (lsts ws)).isSome]) ∧ (∀ y, lineL false x (lsts ws) = some y → NlV w' v' y) ∧ Below w.heap.size w w' ∧ ShNl v' := by
  obtain ⟨a0, c, rfl⟩ := hw.sized
  match ws, h0, hw, hs, hl with
  | s0 :: r, _, hw, hs, hl =>
    have hsr : ∀ y ∈ r, y.size ≤ 1048576 := fun y hy => hs y (List.mem_cons_of_mem _ hy)
    have hlr : r.length ≤ 1048577 := by simp at hl; omega
    by_cases hk : s0.data.toList = wPortL
    · by_cases hr : r.length = 2
      · match r, hr, hw, hsr with
        | [nm, a], _, hw, hsr =>
          have h1 := hsr nm (by simp)
          have h2 := hsr a (by simp)
          by_cases hb : nameB nm = true
          · by_cases hds : x.ds = []
            · exact line_p3 x v a0 _ c s0 _ w h hw nm a hk rfl ⟨h1, h2⟩ hb hds hp50
            · exact line_p2 x v a0 _ c s0 _ w h hw nm a hk rfl h1 (.inr hds)
          · exact line_p2 x v a0 _ c s0 _ w h hw nm a hk rfl h1 (.inl (by simpa using hb))
      · exact line_p1 x v a0 _ c s0 r w h hw hk hr
    · rcases kind_cases s0 with ⟨h1, _⟩ | ⟨k, h1, _, hk3⟩
      · exact line_d1 x v a0 _ c s0 r w h hw hk hsr hlr h1
      · match hn : numsL (lsts r) with
        | none => exact line_d2 x v a0 _ c s0 r w h hw k hk hsr hlr h1 hn
        | some zs =>
          by_cases hz : zs.length = pinN k + 2
          · have get : ∀ i, i < zs.length → ∃ z, zs[i]? = some z := fun i hi => ⟨_, List.getElem?_eq_getElem hi⟩
            rcases hk3 with rfl | rfl | rfl
            · obtain ⟨WD, h3⟩ := get 3 (by rw [hz]; decide)
              obtain ⟨LN, h4⟩ := get 4 (by rw [hz]; decide)
              exact line_d4_0 x v a0 _ c s0 r w h hw zs WD LN hk hsr hlr h1 hn hz h3 h4 hd50
            · obtain ⟨WD, h3⟩ := get 3 (by rw [hz]; decide)
              obtain ⟨LN, h4⟩ := get 4 (by rw [hz]; decide)
              exact line_d4_1 x v a0 _ c s0 r w h hw zs WD LN hk hsr hlr h1 hn hz h3 h4 hd50
            · obtain ⟨WD, h3⟩ := get 2 (by rw [hz]; decide)
              obtain ⟨LN, h4⟩ := get 3 (by rw [hz]; decide)
              exact line_d4_2 x v a0 _ c s0 r w h hw zs WD LN hk hsr hlr h1 hn hz h3 h4 hd50
          · exact line_d3 x v a0 _ c s0 r w h hw k hk hsr hlr h1 zs hn hz
end Go.Proofs.YtglddnkpccgchaaDoor
