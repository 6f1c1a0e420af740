/- The program's netLine: all its ways joined. -/
import Derived.Test.YtglddnkpccgchaaDoorNetLd
namespace Go.Proofs.YtglddnkpccgchaaDoor
open Go.RowKit
set_option linter.unusedVariables false

theorem netLine_any (x : Nl) (b : Bool) (s : ByteArray) (NB B lo : Nat) (w : World) (hs : s.size ≤ 1048576) (hx : BoxN w NB lo x) (hG : Glob B w) (hB : B ≤ NB) (hds : x.ds.length ≤ 24) (hps : x.ps.length ≤ 8) :
    Calls Tryd.prog 37 #[.pointer (some ⟨NB, 0, none⟩), .string s, .bool b] w fun e w' => e = .returned (.bool (lineL b x (splL 32 s.data.toList)).isSome) ∧ (∀ y, lineL b x (splL 32 s.data.toList) = some y → BoxN w' NB lo y) ∧ Below NB w w' := by
  have hl := lsts_wrd 32 s
  match hW : wrdS 32 s with
  | [] => exact absurd hW (wrd_size 32 s).2.2
  | s0 :: r =>
    rw [hW] at hl
    rw [← hl]
    cases b with
    | true =>
      by_cases hk : s0.data.toList = wNetsL
      · exact netl_n x s s0 r NB B lo w hW hs hx hG hB hk
      · exact netl_a x s s0 r NB B lo w hW hs hx hG hB hk
    | false =>
      by_cases hk : s0.data.toList = wNetsL
      · exact netl_b x s s0 r NB B lo w hW hs hx hG hB hk
      · by_cases hp : s0.data.toList = wPortL
        · by_cases hr : r.length = 2
          · match r, hr, hW with
            | [nm, a], _, hW =>
              by_cases hn : nameB nm = true
              · by_cases hd : x.ds = []
                · match hnum : numL a.data.toList with
                  | none => exact netl_p4 x s s0 _ NB B lo w hW hs hx hG hB nm a hp rfl hn hd hnum
                  | some m => exact netl_p5 x s s0 _ NB B lo w hW hs hx hG hB nm a hp rfl hn hd m hnum hps
                · exact netl_p3 x s s0 _ NB B lo w hW hs hx hG hB nm a hp rfl hn hd
              · exact netl_p2 x s s0 _ NB B lo w hW hs hx hG hB nm a hp rfl (by simpa using hn)
          · exact netl_p1 x s s0 r NB B lo w hW hs hx hG hB hp hr
        · rcases kind_cases s0 with ⟨h1, _⟩ | ⟨k, h1, _, hk3⟩
          · exact netl_k0 x s s0 r NB B lo w hW hs hx hG hB hp hk h1
          · cases hc : cntB (numsL (lsts r)) ((pinN k : Int) + 2) with
            | false =>
              rcases hk3 with rfl | rfl | rfl
              · exact netl_k1_0 x s s0 r NB B lo w hW hs hx hG hB h1 hc
              · exact netl_k1_1 x s s0 r NB B lo w hW hs hx hG hB h1 hc
              · exact netl_k1_2 x s s0 r NB B lo w hW hs hx hG hB h1 hc
            | true =>
              match hn : numsL (lsts r) with
              | none => rw [hn] at hc; cases hc
              | some zs =>
                rw [hn] at hc
                have hz : zs.length = pinN k + 2 := by
                  have : ((zs.length : Int) == (pinN k : Int) + 2) = true := hc
                  simp at this
                  omega
                have get : ∀ i, i < zs.length → ∃ z, zs[i]? = some z := fun i hi => ⟨_, List.getElem?_eq_getElem hi⟩
                rcases hk3 with rfl | rfl | rfl
                · obtain ⟨WD, h3⟩ := get 3 (by rw [hz]; decide)
                  obtain ⟨LN, h4⟩ := get 4 (by rw [hz]; decide)
                  exact netl_d_0 x s s0 r NB B lo w hW hs hx hG hB zs WD LN h1 hn hz h3 h4 hds
                · obtain ⟨WD, h3⟩ := get 3 (by rw [hz]; decide)
                  obtain ⟨LN, h4⟩ := get 4 (by rw [hz]; decide)
                  exact netl_d_1 x s s0 r NB B lo w hW hs hx hG hB zs WD LN h1 hn hz h3 h4 hds
                · obtain ⟨WD, h3⟩ := get 2 (by rw [hz]; decide)
                  obtain ⟨LN, h4⟩ := get 3 (by rw [hz]; decide)
                  exact netl_d_2 x s s0 r NB B lo w hW hs hx hG hB zs WD LN h1 hn hz h3 h4 hds
end Go.Proofs.YtglddnkpccgchaaDoor
