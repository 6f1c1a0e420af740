/- What the two parsers' walks ask of the plain part. -/
import Derived.Test.YtglddnkpccgchaaDoorPrsB
import Derived.Test.YtglddnkpccgchaaDoorPrsC
import Derived.Test.YtglddnkpccgchaaDoorValid0
import Derived.Test.YtglddnkpccgchaaDoorNls
namespace Go.Proofs.YtglddnkpccgchaaDoor
open Go.RowKit
set_option linter.unusedVariables false
set_option linter.unusedSimpArgs false

theorem splL_size (c : UInt8) : ∀ (l : List UInt8), (∀ p ∈ splL c l, p.length ≤ l.length) ∧ (splL c l).length ≤ l.length + 1
  | [] => by simp [splL]
  | b :: l => by
    obtain ⟨h1, h2⟩ := splL_size c l
    unfold splL
    by_cases h : b = c
    · rw [if_pos h]
      refine ⟨fun p hp => ?_, by simp; omega⟩
      rcases List.mem_cons.1 hp with rfl | hp
      · simp
      · have := h1 p hp; simp; omega
    · rw [if_neg h]
      match hs : splL c l with
      | [] => simp
      | x :: t =>
        rw [hs] at h1 h2
        refine ⟨fun p hp => ?_, by simp at h2 ⊢; omega⟩
        rcases List.mem_cons.1 hp with rfl | hp
        · have := h1 x List.mem_cons_self; simp; omega
        · have := h1 p (List.mem_cons_of_mem _ hp); simp; omega
theorem size_mkB (l : List UInt8) : (mkB l).size = l.length := by simp [mkB, ByteArray.size]
theorem lsts_wrd (c : UInt8) (s : ByteArray) : lsts (wrdS c s) = splL c s.data.toList := by
  rw [wrdS_mk]
  unfold lsts
  rw [List.map_map]
  conv => rhs; rw [← List.map_id (splL c s.data.toList)]
  apply List.map_congr_left
  intro l _
  rfl
theorem wrd_size (c : UInt8) (s : ByteArray) : (∀ x ∈ wrdS c s, x.size ≤ s.size) ∧ (wrdS c s).length ≤ s.size + 1 ∧ wrdS c s ≠ [] := by
  obtain ⟨h1, h2⟩ := splL_size c s.data.toList
  rw [size_data] at h1 h2
  rw [wrdS_mk]
  refine ⟨fun x hx => ?_, by simpa using h2, fun e => splL_ne c s.data.toList (List.map_eq_nil_iff.1 e)⟩
  obtain ⟨l, hl, rfl⟩ := List.mem_map.1 hx
  rw [size_mkB]
  exact h1 l hl
theorem num_le {l : List UInt8} {n : Nat} (h : numL l = some n) : n ≤ 9999999 := (numL_iff.1 h).1
theorem numsL_le : ∀ {L : List (List UInt8)} {zs : List Int}, numsL L = some zs → ∀ z ∈ zs, 0 ≤ z ∧ z ≤ 9999999
  | [], zs, h, z, hz => by
    simp only [numsL, Option.some.injEq] at h
    subst h
    simp at hz
  | l :: r, zs, h, z, hz => by
    unfold numsL at h
    cases hn : numL l with
    | none => rw [hn] at h; simp at h
    | some n =>
      cases hr : numsL r with
      | none => rw [hn, hr] at h; simp at h
      | some ys =>
        rw [hn, hr] at h
        simp only [Option.some.injEq] at h
        subst h
        rcases List.mem_cons.1 hz with rfl | hz
        · have := num_le hn; omega
        · exact numsL_le hr z hz
theorem nlB_nl0 : nlB nl0 = true := by decide
def NlF (x : Nl) : Prop := Fits x.nets ∧ (∀ p ∈ x.ps, p.ok) ∧ x.ds.length ≤ 25 ∧ x.ps.length ≤ 9 ∧ ∀ d ∈ x.ds, 2 ≤ d.pins.length
theorem nl0_f : NlF nl0 := ⟨by unfold Fits nl0; dsimp only; omega, by simp [nl0], by simp [nl0], by simp [nl0], by simp [nl0]⟩
theorem nlB_cnt {x : Nl} (h : nlB x = true) : x.ds.length ≤ 24 ∧ x.ps.length ≤ 8 := ⟨(nlB_facts h).2.1, (nlB_facts h).2.2.1⟩
/-- What a line may add keeps a netlist that both functions can test. -/
theorem line_fits {x y : Nl} {b : Bool} {ws : List (List UInt8)} (hx : NlF x) (hB : nlB x = true) (hs : ∀ p ∈ ws, p.length ≤ 1048576) (h : lineL b x ws = some y) : NlF y := by
  obtain ⟨f1, f2, _, _, f5⟩ := hx
  obtain ⟨c1, c2⟩ := nlB_cnt hB
  unfold lineL at h
  match ws, hs, h with
  | w :: r, hs, h =>
    dsimp only at h
    by_cases hb : b = true
    · rw [if_pos hb] at h
      by_cases hw : w = wNetsL
      · rw [if_pos hw] at h
        match hn : numsL r, h with
        | some [z], h =>
          simp only [Option.some.injEq] at h
          subst h
          have := numsL_le hn z (by simp)
          exact ⟨by unfold Fits; dsimp only; omega, f2, by dsimp only; omega, by dsimp only; omega, f5⟩
      · rw [if_neg hw] at h; cases h
    · rw [if_neg hb] at h
      by_cases hw : w = wPortL
      · rw [if_pos hw] at h
        match r, hs, h with
        | [nm, a], hs, h =>
          dsimp only at h
          by_cases hc : nameB ⟨nm.toArray⟩ = true ∧ x.ds = []
          · rw [if_pos hc] at h
            match hn : numL a, h with
            | some n, h =>
              simp only [Option.some.injEq] at h
              subst h
              have hn2 := num_le hn
              refine ⟨f1, fun p hp => ?_, by dsimp only; omega, by simp; omega, f5⟩
              rcases List.mem_append.1 hp with hp | hp
              · exact f2 p hp
              · simp only [List.mem_singleton] at hp
                subst hp
                have := hs nm (by simp)
                refine ⟨?_, by unfold Fits; dsimp only; omega⟩
                show (ByteArray.mk nm.toArray).size ≤ _
                have := size_mkB nm
                unfold mkB at this
                omega
          · rw [if_neg hc] at h; cases h
      · rw [if_neg hw] at h
        match hk : kindL w, h with
        | some k, h =>
          dsimp only at h
          match hn : numsL r, h with
          | some zs, h =>
            dsimp only at h
            by_cases hz : zs.length = pinN k + 2
            · rw [if_pos hz] at h
              simp only [Option.some.injEq] at h
              subst h
              refine ⟨f1, f2, by simp; omega, by dsimp only; omega, fun d hd => ?_⟩
              rcases List.mem_append.1 hd with hd | hd
              · exact f5 d hd
              · simp only [List.mem_singleton] at hd
                subst hd
                show 2 ≤ (zs.take (pinN k)).length
                rw [List.length_take]
                have hp2 : 2 ≤ pinN k := by unfold pinN; split <;> omega
                omega
            · rw [if_neg hz] at h; cases h
/-- One round of the parser. -/
theorem prs_last {L : List (List UInt8)} {i : Nat} {l : List UInt8} (hl : L[i]? = some l) (he : i + 1 = L.length) (x : Nl) : prsL i x (L.drop i) = if 0 < i ∧ l = [] then (x, 0, 0) else (nl0, 4, (i : Int) + 1) := by
  have e : L.drop i = [l] := by
    rw [List.drop_eq_getElem_cons (by omega), List.drop_of_length_le (by omega)]
    congr 1
    exact (List.getElem?_eq_some_iff.1 hl).2
  rw [e]
  rfl
theorem prs_next {L : List (List UInt8)} {i : Nat} {l : List UInt8} (hl : L[i]? = some l) (he : i + 1 < L.length) (x : Nl) : prsL i x (L.drop i) = match lineL (decide (i = 0)) x (splL 32 l) with
    | none => (nl0, 4, (i : Int) + 1)
    | some y => if nlB y = true then prsL (i + 1) y (L.drop (i + 1)) else (nl0, 2, (i : Int) + 1) := by
  rw [List.drop_eq_getElem_cons (show i < L.length by omega), List.drop_eq_getElem_cons he]
  have e := (List.getElem?_eq_some_iff.1 hl).2
  rw [e]
  rfl
theorem nlZ (w : World) : NlV w (.agg #[.int .i64 0, .slice none 0 0, .slice none 0 0]) nl0 := ⟨_, _, rfl, .inl ⟨_, _, rfl, rfl⟩, .inl ⟨_, _, rfl, rfl⟩⟩
def wNetsB : ByteArray := ⟨#[110, 101, 116, 115]⟩
theorem nets_word (s : ByteArray) : (s.toList == ([110, 101, 116, 115] : List UInt8)) = decide (s.data.toList = wNetsL) := by
  rw [show ([110, 101, 116, 115] : List UInt8) = wNetsB.toList by simp [wNetsB], toList_eq]
  by_cases h : s = wNetsB
  · subst h; rfl
  · rw [decide_eq_false h, decide_eq_false]
    exact fun e => h (ba_ext e)
theorem empty_word (s : ByteArray) : (s.toList == ([] : List UInt8)) = decide (s.data.toList = []) := by
  have e1 := toList_eq s ⟨#[]⟩
  rw [show (⟨#[]⟩ : ByteArray).toList = [] by simp] at e1
  rw [e1]
  by_cases h : s = ⟨#[]⟩
  · subst h; rfl
  · rw [decide_eq_false h]
    symm
    rw [decide_eq_false_iff_not]
    intro e
    exact h (ba_ext (by simpa using e))
theorem empty_is (s : ByteArray) : s.toList.isEmpty = decide (s.data.toList = []) := by
  rw [← empty_word]
  cases s.toList <;> rfl
end Go.Proofs.YtglddnkpccgchaaDoor
