/- The netlist of a text: the plain part. -/
import Derived.Test.YtglddnkpccgchaaDoorFmtI
import Derived.Test.YtglddnkpccgchaaDoorBldg
import Derived.Test.YtglddnkpccgchaaDoorOrdB
import Derived.Lib.Split
import Derived.Lib.SplitLaws
import Derived.Lib.ParseIntBTie
import Derived.Lib.AtoiTie
namespace Go.Proofs.YtglddnkpccgchaaDoor
open Go.RowKit
set_option linter.unusedVariables false
set_option linter.unusedSimpArgs false

/-- The pieces between the occurrences of a byte. -/
def splL (c : UInt8) : List UInt8 → List (List UInt8)
  | [] => [[]]
  | b :: l => if b = c then [] :: splL c l else match splL c l with
    | [] => [[b]]
    | h :: t => (b :: h) :: t
theorem splL_ne (c : UInt8) : ∀ l, splL c l ≠ []
  | [] => by simp [splL]
  | b :: l => by
    unfold splL
    split
    · simp
    · split <;> simp
theorem splL_no {c : UInt8} : ∀ {l : List UInt8}, c ∉ l → splL c l = [l]
  | [], _ => rfl
  | b :: l, h => by
    have h1 : ¬ b = c := fun e => h (by simp [e])
    have h2 : c ∉ l := fun e => h (List.mem_cons_of_mem _ e)
    rw [splL, if_neg h1, splL_no h2]
theorem splL_app {c : UInt8} : ∀ {l : List UInt8} (r : List UInt8), c ∉ l → splL c (l ++ c :: r) = l :: splL c r
  | [], r, _ => by simp [splL]
  | b :: l, r, h => by
    have h1 : ¬ b = c := fun e => h (by simp [e])
    have h2 : c ∉ l := fun e => h (List.mem_cons_of_mem _ e)
    rw [List.cons_append, splL, if_neg h1, splL_app r h2]
/-- Put together again they give the text, and no piece holds the byte. -/
theorem splL_join {c : UInt8} : ∀ (l : List UInt8), Go.Lib.join (splL c l) [c] = l ∧ ∀ p ∈ splL c l, c ∉ p
  | [] => by simp [splL, Go.Lib.join_one]
  | b :: l => by
    obtain ⟨h1, h2⟩ := splL_join (c := c) l
    have hn := splL_ne c l
    unfold splL
    by_cases h : b = c
    · rw [if_pos h]
      subst h
      match hs : splL b l, hn with
      | x :: t, _ =>
        rw [hs] at h1 h2
        refine ⟨?_, fun p hp => ?_⟩
        · rw [Go.Lib.join_cons] at h1 ⊢
          simp only [Go.Lib.joinTail, List.map_cons, List.flatten_cons, List.append_assoc, List.nil_append, List.singleton_append, List.cons_append] at h1 ⊢
          rw [h1]
        · rcases List.mem_cons.1 hp with rfl | hp
          · simp
          · exact h2 p hp
    · rw [if_neg h]
      match hs : splL c l, hn with
      | x :: t, _ =>
        rw [hs] at h1 h2
        refine ⟨?_, fun p hp => ?_⟩
        · rw [Go.Lib.join_cons] at h1 ⊢
          rw [List.cons_append, h1]
        · rcases List.mem_cons.1 hp with rfl | hp
          · have := h2 x List.mem_cons_self
            simp only [List.mem_cons, not_or]
            exact ⟨fun e => h e.symm, this⟩
          · exact h2 p (List.mem_cons_of_mem _ hp)
theorem splL_of_join {c : UInt8} : ∀ (r : List (List UInt8)) (x : List UInt8), (∀ p ∈ x :: r, c ∉ p) → splL c (Go.Lib.join (x :: r) [c]) = x :: r
  | [], x, h => by rw [Go.Lib.join_one]; exact splL_no (h x List.mem_cons_self)
  | y :: r, x, h => by
    have ih := splL_of_join r y (fun p hp => h p (List.mem_cons_of_mem _ hp))
    rw [Go.Lib.join_cons] at ih ⊢
    simp only [Go.Lib.joinTail, List.map_cons, List.flatten_cons, List.append_assoc, List.singleton_append, List.cons_append, List.nil_append] at ih ⊢
    rw [splL_app _ (h x List.mem_cons_self), ih]

/-- A number of at most seven digits without a leading zero. -/
def isDg (b : UInt8) : Bool := decide (48 ≤ b.toNat) && decide (b.toNat ≤ 57)
def valL (l : List UInt8) : Nat := l.foldl (fun n b => 10 * n + (b.toNat - 48)) 0
def numL (l : List UInt8) : Option Nat := if (1 ≤ l.length ∧ l.length ≤ 7) ∧ (l.length = 1 ∨ l.head? ≠ some 48) ∧ l.all isDg = true then some (valL l) else none
theorem valL_snoc (l : List UInt8) (b : UInt8) : valL (l ++ [b]) = 10 * valL l + (b.toNat - 48) := by simp [valL]
theorem dec_snoc (n : Nat) (h : ¬ n < 10) : Go.Lib.decDigits n = Go.Lib.decDigits (n / 10) ++ [UInt8.ofNat (48 + n % 10)] := by
  conv => lhs; rw [Go.Lib.decDigits, dif_neg h]
theorem dec_one {n : Nat} (h : n < 10) : Go.Lib.decDigits n = [UInt8.ofNat (48 + n)] := by rw [Go.Lib.decDigits, dif_pos h]
theorem toNat_dg {n : Nat} (h : n < 10) : (UInt8.ofNat (48 + n)).toNat = 48 + n := by rw [UInt8.toNat_ofNat']; omega
theorem dec_facts (n : Nat) : 1 ≤ (Go.Lib.decDigits n).length ∧ valL (Go.Lib.decDigits n) = n ∧ (Go.Lib.decDigits n).all isDg = true ∧ ((Go.Lib.decDigits n).length = 1 ∨ (Go.Lib.decDigits n).head? ≠ some 48) ∧ (1 ≤ n → (Go.Lib.decDigits n).head? ≠ some 48) := by
  induction n using Nat.strongRecOn with
  | ind n ih =>
    by_cases h : n < 10
    · rw [dec_one h]
      refine ⟨by simp, ?_, ?_, .inl rfl, fun h1 => ?_⟩
      · simp only [valL, List.foldl_cons, List.foldl_nil, toNat_dg h]; omega
      · simp only [List.all_cons, List.all_nil, isDg, toNat_dg h, Bool.and_true, Bool.and_eq_true, decide_eq_true_eq]; omega
      · intro e
        simp only [List.head?_cons, Option.some.injEq] at e
        have := congrArg UInt8.toNat e
        rw [toNat_dg h] at this
        have e2 : (48 : UInt8).toNat = 48 := rfl
        omega
    · obtain ⟨i1, i2, i3, _, i5⟩ := ih (n / 10) (by omega)
      have h10 : n % 10 < 10 := by omega
      have hh : (Go.Lib.decDigits n).head? ≠ some 48 := by
        rw [dec_snoc n h]
        match hq : Go.Lib.decDigits (n / 10), i1, i5 with
        | a :: t, _, i5 => rw [List.cons_append, List.head?_cons]; exact i5 (by omega)
      refine ⟨by rw [dec_snoc n h]; simp, ?_, ?_, .inr hh, fun _ => hh⟩
      · rw [dec_snoc n h, valL_snoc, i2, toNat_dg h10]; omega
      · rw [dec_snoc n h, List.all_append, i3]
        simp only [List.all_cons, List.all_nil, isDg, toNat_dg h10, Bool.and_true, Bool.true_and, Bool.and_eq_true, decide_eq_true_eq]; omega
theorem dec_val : ∀ (k : Nat) (l : List UInt8), l.length = k → 1 ≤ l.length → (l.length = 1 ∨ l.head? ≠ some 48) → l.all isDg = true → Go.Lib.decDigits (valL l) = l
  | 0, l, hk, h1, _, _ => by omega
  | k + 1, l, hk, h1, h2, h3 => by
    obtain ⟨l0, b, rfl⟩ : ∃ l0 b, l = l0 ++ [b] := by
      cases l with
      | nil => simp at h1
      | cons a t => exact ⟨(a :: t).dropLast, (a :: t).getLast (by simp), (List.dropLast_concat_getLast (by simp)).symm⟩
    rw [List.all_append, Bool.and_eq_true] at h3
    have hb : 48 ≤ b.toNat ∧ b.toNat ≤ 57 := by
      have := h3.2
      simp only [List.all_cons, List.all_nil, Bool.and_true, isDg, Bool.and_eq_true, decide_eq_true_eq] at this
      exact this
    have hbe : UInt8.ofNat (48 + (b.toNat - 48)) = b := by
      have : 48 + (b.toNat - 48) = b.toNat := by omega
      rw [this, UInt8.ofNat_toNat]
    rw [valL_snoc]
    cases l0 with
    | nil =>
      have e : 10 * valL [] + (b.toNat - 48) = b.toNat - 48 := by simp [valL]
      rw [e, dec_one (by omega), hbe]
      rfl
    | cons a t =>
      have hne : (a :: t).head? ≠ some 48 := by
        rcases h2 with h2 | h2
        · simp at h2
        · rw [List.cons_append, List.head?_cons] at h2
          rw [List.head?_cons]; exact h2
      have ih := dec_val k (a :: t) (by simpa using hk) (by simp) (.inr hne) h3.1
      have hv : 1 ≤ valL (a :: t) := by
        rcases Nat.eq_zero_or_pos (valL (a :: t)) with h0 | h0
        · rw [h0, dec_one (by omega)] at ih
          simp only [List.cons.injEq] at ih
          exact absurd (by rw [← ih.1]; rfl) hne
        · exact h0
      rw [dec_snoc _ (by omega), show (10 * valL (a :: t) + (b.toNat - 48)) / 10 = valL (a :: t) by omega, show (10 * valL (a :: t) + (b.toNat - 48)) % 10 = b.toNat - 48 by omega, ih, hbe]
theorem len_dec (n : Nat) : ∀ k, n < 10 ^ k → 1 ≤ k → (Go.Lib.decDigits n).length ≤ k := by
  induction n using Nat.strongRecOn with
  | ind n ih =>
    intro k hk h1
    by_cases h : n < 10
    · rw [dec_one h]; simpa using h1
    · match k, h1 with
      | 1, _ => simp at hk; omega
      | k + 2, _ =>
        have := ih (n / 10) (by omega) (k + 1) (by rw [Nat.pow_succ] at hk; omega) (by omega)
        rw [dec_snoc n h]
        simp only [List.length_append, List.length_cons, List.length_nil]
        omega
theorem val_lt : ∀ (k : Nat) (l : List UInt8), l.length = k → l.all isDg = true → valL l < 10 ^ k
  | 0, l, hk, _ => by
    cases l with
    | nil => simp [valL]
    | cons a t => simp at hk
  | k + 1, l, hk, h => by
    obtain ⟨l0, b, rfl⟩ : ∃ l0 b, l = l0 ++ [b] := by
      cases l with
      | nil => simp at hk
      | cons a t => exact ⟨(a :: t).dropLast, (a :: t).getLast (by simp), (List.dropLast_concat_getLast (by simp)).symm⟩
    rw [List.all_append, Bool.and_eq_true] at h
    have ih := val_lt k l0 (by simpa using hk) h.1
    have := h.2
    simp only [List.all_cons, List.all_nil, Bool.and_true, isDg, Bool.and_eq_true, decide_eq_true_eq] at this
    rw [valL_snoc, Nat.pow_succ]
    omega
/-- The numbers that are read are those below ten millions, and their words are their decimal forms. -/
theorem numL_iff {l : List UInt8} {n : Nat} : numL l = some n ↔ n ≤ 9999999 ∧ l = Go.Lib.decDigits n := by
  unfold numL
  constructor
  · intro h
    by_cases hc : (1 ≤ l.length ∧ l.length ≤ 7) ∧ (l.length = 1 ∨ l.head? ≠ some 48) ∧ l.all isDg = true
    · rw [if_pos hc] at h
      obtain rfl := Option.some.inj h
      refine ⟨?_, (dec_val _ l rfl hc.1.1 hc.2.1 hc.2.2).symm⟩
      have h1 := val_lt _ l rfl hc.2.2
      have h2 : 10 ^ l.length ≤ 10 ^ 7 := Nat.pow_le_pow_right (by omega) hc.1.2
      omega
    · rw [if_neg hc] at h; cases h
  · rintro ⟨h, rfl⟩
    obtain ⟨f1, f2, f3, f4, _⟩ := dec_facts n
    rw [if_pos ⟨⟨f1, len_dec n 7 (by omega) (by omega)⟩, f4, f3⟩, f2]

/-- The number of a kind's word. -/
def kindL (w : List UInt8) : Option Nat := if w = [110] then some 0 else if w = [112] then some 1 else if w = [114] then some 2 else none
def pinN (k : Nat) : Nat := if k = 2 then 2 else 3
def wNetsL : List UInt8 := [110, 101, 116, 115]
def wPortL : List UInt8 := [112, 111, 114, 116]
def numsL : List (List UInt8) → Option (List Int)
  | [] => some []
  | l :: r => match numL l with
    | none => none
    | some n => match numsL r with
      | none => none
      | some zs => some ((n : Int) :: zs)
/-- What a line adds to a netlist. -/
def lineL (first : Bool) (x : Nl) (ws : List (List UInt8)) : Option Nl :=
  match ws with
  | [] => none
  | w :: r =>
    if first = true then
      (if w = wNetsL then match numsL r with
        | some [z] => some { x with nets := z }
        | _ => none
       else none)
    else if w = wPortL then (match r with
      | [nm, a] => if nameB ⟨nm.toArray⟩ = true ∧ x.ds = [] then (match numL a with
          | some n => some { x with ps := x.ps ++ [⟨⟨nm.toArray⟩, (n : Int)⟩] }
          | none => none) else none
      | _ => none)
    else match kindL w with
      | none => none
      | some k => match numsL r with
        | none => none
        | some zs => if zs.length = pinN k + 2 then some { x with ds := x.ds ++ [⟨(k : Int), zs.take (pinN k), (zs[pinN k]?).getD 0, (zs[pinN k + 1]?).getD 0⟩] } else none
def nl0 : Nl := ⟨0, [], []⟩
/-- The netlist of the lines from line i on (from 0), behind what was read. -/
def prsL : Nat → Nl → List (List UInt8) → Nl × Int × Int
  | i, x, [] => (x, 0, 0)
  | i, x, [l] => if 0 < i ∧ l = [] then (x, 0, 0) else (nl0, 4, (i : Int) + 1)
  | i, x, l :: m :: r => match lineL (decide (i = 0)) x (splL 32 l) with
    | none => (nl0, 4, (i : Int) + 1)
    | some y => if nlB y = true then prsL (i + 1) y (m :: r) else (nl0, 2, (i : Int) + 1)
/-- The netlist of a text. -/
def prsS (s : ByteArray) : Nl × Int × Int := prsL 0 nl0 (splL 10 s.data.toList)
/-- What is refused. -/
theorem prsL_bad : ∀ (L : List (List UInt8)) (i : Nat) (x : Nl), (prsL i x L).2.1 = 0 ∧ (prsL i x L).2.2 = 0 ∨ ((prsL i x L).2.1 = 4 ∨ (prsL i x L).2.1 = 2) ∧ (prsL i x L).1 = nl0 ∧ 1 ≤ (prsL i x L).2.2 ∧ (prsL i x L).2.2 ≤ i + L.length
  | [], i, x => .inl ⟨rfl, rfl⟩
  | [l], i, x => by
    unfold prsL
    split
    · exact .inl ⟨rfl, rfl⟩
    · refine .inr ⟨.inl rfl, rfl, ?_, ?_⟩ <;> simp <;> omega
  | l :: m :: r, i, x => by
    unfold prsL
    split
    · refine .inr ⟨.inl rfl, rfl, ?_, ?_⟩ <;> simp <;> omega
    · split
      · rcases prsL_bad (m :: r) (i + 1) _ with h | ⟨h1, h2, h3, h4⟩
        · exact .inl h
        · exact .inr ⟨h1, h2, h3, by simp only [List.length_cons] at h4 ⊢; omega⟩
      · refine .inr ⟨.inr rfl, rfl, ?_, ?_⟩ <;> simp <;> omega
end Go.Proofs.YtglddnkpccgchaaDoor

/- Reading back what was written, and writing what was read: plain. -/
namespace Go.Proofs.YtglddnkpccgchaaDoor
open Go.RowKit
set_option linter.unusedVariables false
set_option linter.unusedSimpArgs false

/-- The text of a netlist, as a list. -/
def txtL (x : Nl) : List UInt8 := ((linesI x).map (fun l => (l ++ nlBt).data.toList)).flatten
theorem fmtS_txt {x : Nl} (h : nlB x = true) : (fmtS x).data.toList = txtL x := by rw [fmtS_yes h, fmtS_lines]; rfl
theorem txtL_snoc {x y : Nl} {l : ByteArray} (h : linesI y = linesI x ++ [l]) : txtL y = txtL x ++ (l ++ nlBt).data.toList := by
  unfold txtL; rw [h]; simp
theorem kindL_word {w : List UInt8} {k : Nat} (h : kindL w = some k) : (kindS (k : Int)).data.toList = w ∧ k ≤ 2 := by
  unfold kindL at h
  by_cases h1 : w = [110]
  · rw [if_pos h1] at h; cases h; exact ⟨h1.symm, by omega⟩
  · rw [if_neg h1] at h
    by_cases h2 : w = [112]
    · rw [if_pos h2] at h; cases h; exact ⟨h2.symm, by omega⟩
    · rw [if_neg h2] at h
      by_cases h3 : w = [114]
      · rw [if_pos h3] at h; cases h; exact ⟨h3.symm, by omega⟩
      · rw [if_neg h3] at h; cases h
theorem numsL_words : ∀ {r : List (List UInt8)} {zs : List Int}, numsL r = some zs → zs.length = r.length ∧ (zs.map (fun z => (numS z.toNat).data.toList)) = r
  | [], zs, h => by cases h; exact ⟨rfl, rfl⟩
  | l :: r, zs, h => by
    unfold numsL at h
    match h1 : numL l with
    | none => rw [h1] at h; cases h
    | some n =>
      rw [h1] at h
      match h2 : numsL r with
      | none => rw [h2] at h; cases h
      | some ys =>
        rw [h2] at h
        cases h
        obtain ⟨e1, e2⟩ := numsL_words h2
        obtain ⟨_, e3⟩ := numL_iff.1 h1
        refine ⟨by simp [e1], ?_⟩
        rw [List.map_cons, e2, Int.toNat_natCast, numS_dec, ← e3]
theorem numsL_some : ∀ {zs : List Int}, (∀ z ∈ zs, 0 ≤ z ∧ z ≤ 9999999) → numsL (zs.map (fun z => (numS z.toNat).data.toList)) = some zs
  | [], _ => rfl
  | z :: zs, h => by
    have h1 := h z List.mem_cons_self
    have ih := numsL_some (fun y hy => h y (List.mem_cons_of_mem _ hy))
    have h2 : numL (numS z.toNat).data.toList = some z.toNat := numL_iff.2 ⟨by omega, by rw [numS_dec]⟩
    rw [List.map_cons, numsL, h2, ih]
    have : ((z.toNat : Nat) : Int) = z := by omega
    simp [this]
theorem split_last {zs : List Int} {n : Nat} (h : zs.length = n + 2) : zs.take n ++ [(zs[n]?).getD 0, (zs[n + 1]?).getD 0] = zs := by
  have h1 : n < zs.length := by omega
  have h2 : n + 1 < zs.length := by omega
  have e3 : zs.take (n + 1 + 1) = zs := List.take_of_length_le (by omega)
  have e4 : zs.take (n + 1 + 1) = zs.take n ++ [(zs[n]?).getD 0, (zs[n + 1]?).getD 0] := by
    rw [List.getElem?_eq_getElem h1, List.getElem?_eq_getElem h2, ← List.take_append_getElem h2, ← List.take_append_getElem h1, List.append_assoc]
    rfl
  rw [e3] at e4
  exact e4.symm
/-- A line that is taken is the line that is written for what it adds. -/
theorem lineL_says {f : Bool} {x y : Nl} {ws : List (List UInt8)} (h : lineL f x ws = some y) (hf : f = true → x = nl0) : ∃ l : ByteArray, l.data.toList = Go.Lib.join ws [32] ∧ (f = true → linesI y = [l]) ∧ (f = false → linesI y = linesI x ++ [l]) := by
  unfold lineL at h
  match ws, h with
  | w :: r, h =>
    cases f with
    | true =>
      have hx := hf rfl
      subst hx
      simp only [if_pos] at h
      by_cases hw : w = wNetsL
      · rw [if_pos hw] at h
        match h1 : numsL r, h with
        | some [z], h =>
          obtain rfl := Option.some.inj h
          obtain ⟨_, e2⟩ := numsL_words h1
          refine ⟨ln0 z, ?_, fun _ => rfl, fun e => by cases e⟩
          rw [← e2, hw]
          rfl
        | some [], h => cases h
        | some (_ :: _ :: _), h => cases h
        | none, h => cases h
      · rw [if_neg hw] at h; cases h
    | false =>
      simp only [Bool.false_eq_true, if_false] at h
      by_cases hw : w = wPortL
      · rw [if_pos hw] at h
        match r, h with
        | [nm, a], h =>
          dsimp only at h
          by_cases hc : nameB ⟨nm.toArray⟩ = true ∧ x.ds = []
          · rw [if_pos hc] at h
            match h1 : numL a, h with
            | some n, h =>
              obtain rfl := Option.some.inj h
              obtain ⟨_, e3⟩ := numL_iff.1 h1
              refine ⟨lnP ⟨⟨nm.toArray⟩, (n : Int)⟩, ?_, fun e => (by cases e), fun _ => ?_⟩
              · unfold lnP
                rw [jnB_data, hw]
                simp only [List.map_cons, List.map_nil, Int.toNat_natCast, numS_dec, ← e3]
                rfl
              · unfold linesI
                simp [hc.2]
            | none, h => cases h
          · rw [if_neg hc] at h; cases h
        | [], h => cases h
        | [_], h => cases h
        | _ :: _ :: _ :: _, h => cases h
      · rw [if_neg hw] at h
        match h1 : kindL w, h with
        | none, h => cases h
        | some k, h =>
          dsimp only at h
          match h2 : numsL r, h with
          | none, h => cases h
          | some zs, h =>
            dsimp only at h
            by_cases hl : zs.length = pinN k + 2
            · rw [if_pos hl] at h
              obtain rfl := Option.some.inj h
              obtain ⟨_, e2⟩ := numsL_words h2
              obtain ⟨e3, _⟩ := kindL_word h1
              refine ⟨lnD ⟨(k : Int), zs.take (pinN k), (zs[pinN k]?).getD 0, (zs[pinN k + 1]?).getD 0⟩, ?_, fun e => (by cases e), fun _ => ?_⟩
              · unfold lnD
                rw [jnB_data]
                dsimp only
                rw [split_last hl, List.map_cons, e3, List.map_map]
                rw [show ((fun x : ByteArray => x.data.toList) ∘ fun z : Int => numS z.toNat) = (fun z : Int => (numS z.toNat).data.toList) from rfl, e2]
                rfl
              · unfold linesI
                simp
            · rw [if_neg hl] at h; cases h
/-- What is read is valid, and its text is what was read. -/
theorem prsL_canon : ∀ (L : List (List UInt8)) (i : Nat) (x : Nl), 0 < i → nlB x = true → (prsL i x L).2.1 = 0 → nlB (prsL i x L).1 = true ∧ txtL (prsL i x L).1 = txtL x ++ Go.Lib.join L [10]
  | [], i, x, hi, hv, h => ⟨hv, by simp [prsL, Go.Lib.join_nil]⟩
  | [l], i, x, hi, hv, h => by
    unfold prsL at h ⊢
    by_cases hc : 0 < i ∧ l = []
    · rw [if_pos hc]
      exact ⟨hv, by rw [hc.2]; simp [Go.Lib.join_one]⟩
    · rw [if_neg hc] at h
      exact absurd (show (4 : Int) = 0 from h) (by decide)
  | l :: m :: r, i, x, hi, hv, h => by
    unfold prsL at h ⊢
    have hd : decide (i = 0) = false := decide_eq_false (by omega)
    rw [hd] at h ⊢
    match h1 : lineL false x (splL 32 l) with
    | none => rw [h1] at h; exact absurd (show (4 : Int) = 0 from h) (by decide)
    | some y =>
      rw [h1] at h
      dsimp only at h ⊢
      by_cases hy : nlB y = true
      · rw [if_pos hy] at h ⊢
        obtain ⟨i1, i2⟩ := prsL_canon (m :: r) (i + 1) y (by omega) hy h
        obtain ⟨s, e1, _, e2⟩ := lineL_says h1 (fun e => by cases e)
        refine ⟨i1, ?_⟩
        rw [i2, txtL_snoc (e2 rfl), ba_app, e1, (splL_join l).1]
        rw [Go.Lib.join_cons l]
        simp only [Go.Lib.joinTail, List.map_cons, List.flatten_cons]
        rw [Go.Lib.join_cons m]
        simp [Go.Lib.joinTail, nlBt]
      · rw [if_neg hy] at h
        exact absurd (show (2 : Int) = 0 from h) (by decide)
theorem prs_canon {s : ByteArray} (h : (prsS s).2.1 = 0) : nlB (prsS s).1 = true ∧ fmtS (prsS s).1 = s := by
  unfold prsS at h ⊢
  have hj := (splL_join (c := 10) s.data.toList).1
  match hs : splL 10 s.data.toList with
  | [] => exact absurd hs (splL_ne _ _)
  | [l] =>
    rw [hs] at h
    unfold prsL at h
    rw [if_neg (by omega)] at h
    exact absurd (show (4 : Int) = 0 from h) (by decide)
  | l :: m :: r =>
    rw [hs] at h hj
    unfold prsL at h ⊢
    rw [decide_eq_true rfl] at h ⊢
    match h1 : lineL true nl0 (splL 32 l) with
    | none => rw [h1] at h; exact absurd (show (4 : Int) = 0 from h) (by decide)
    | some y =>
      rw [h1] at h
      dsimp only at h ⊢
      by_cases hy : nlB y = true
      · rw [if_pos hy] at h ⊢
        obtain ⟨i1, i2⟩ := prsL_canon (m :: r) (0 + 1) y (by omega) hy h
        obtain ⟨t, e1, e2, _⟩ := lineL_says h1 (fun _ => rfl)
        refine ⟨i1, ?_⟩
        apply ba_ext
        rw [fmtS_txt i1, i2, ← hj]
        have : txtL y = (t ++ nlBt).data.toList := by unfold txtL; rw [e2 rfl]; simp
        rw [this, ba_app, e1, (splL_join l).1]
        rw [Go.Lib.join_cons l]
        simp only [Go.Lib.joinTail, List.map_cons, List.flatten_cons]
        rw [Go.Lib.join_cons m]
        simp [Go.Lib.joinTail, nlBt]
      · rw [if_neg hy] at h
        exact absurd (show (2 : Int) = 0 from h) (by decide)

/-- Words without blanks and line ends. -/
def PlainW (l : List UInt8) : Prop := (32 : UInt8) ∉ l ∧ (10 : UInt8) ∉ l
theorem PlainW.num (n : Nat) : PlainW (numS n).data.toList := by
  have h := (dec_facts n).2.2.1
  rw [← numS_dec, List.all_eq_true] at h
  refine ⟨fun e => ?_, fun e => ?_⟩
  · have := h _ e; simp [isDg] at this
  · have := h _ e; simp [isDg] at this
theorem PlainW.name {s : ByteArray} (h : nameB s = true) : PlainW s.data.toList := by
  unfold nameB at h
  rw [Bool.and_eq_true, List.all_eq_true] at h
  refine ⟨fun e => ?_, fun e => ?_⟩
  · have := h.1 _ e; simp [chB] at this
  · have := h.1 _ e; simp [chB] at this
theorem PlainW.kind (k : Int) : PlainW (kindS k).data.toList := by
  unfold kindS PlainW
  split
  · decide
  · split <;> decide
theorem no10_join : ∀ (r : List (List UInt8)) (x : List UInt8), (∀ p ∈ x :: r, PlainW p) → (10 : UInt8) ∉ Go.Lib.join (x :: r) [32]
  | [], x, h => by rw [Go.Lib.join_one]; exact (h x List.mem_cons_self).2
  | y :: r, x, h => by
    have ih := no10_join r y (fun p hp => h p (List.mem_cons_of_mem _ hp))
    have hx := (h x List.mem_cons_self).2
    rw [Go.Lib.join_cons] at ih ⊢
    simp only [Go.Lib.joinTail, List.map_cons, List.flatten_cons, List.mem_append, List.mem_cons, List.not_mem_nil, not_or, or_false] at ih ⊢
    exact ⟨hx, ⟨by decide, ih.1⟩, ih.2⟩
theorem line_words (r : List ByteArray) (x : ByteArray) (h : ∀ p ∈ x :: r, PlainW p.data.toList) : splL 32 (jnB (x :: r) spB).data.toList = (x :: r).map (·.data.toList) ∧ (10 : UInt8) ∉ (jnB (x :: r) spB).data.toList := by
  have h' : ∀ p ∈ x.data.toList :: r.map (·.data.toList), PlainW p := by
    intro p hp
    rw [← List.map_cons (f := fun b : ByteArray => b.data.toList)] at hp
    obtain ⟨q, hq, rfl⟩ := List.mem_map.1 hp
    exact h q hq
  rw [jnB_data, List.map_cons]
  exact ⟨splL_of_join _ _ fun p hp => (h' p hp).1, no10_join _ _ h'⟩
theorem lnP_words {p : Pt} (h : nameB p.name = true) : splL 32 (lnP p).data.toList = [wPortL, p.name.data.toList, (numS p.net.toNat).data.toList] ∧ (10 : UInt8) ∉ (lnP p).data.toList := by
  refine line_words _ _ fun q hq => ?_
  simp only [List.mem_cons, List.not_mem_nil, or_false] at hq
  rcases hq with rfl | rfl | rfl
  · unfold PlainW; decide
  · exact PlainW.name h
  · exact PlainW.num _
theorem lnD_words (d : Dv) : splL 32 (lnD d).data.toList = (kindS d.kind).data.toList :: (d.pins ++ [d.wd, d.len]).map (fun z => (numS z.toNat).data.toList) ∧ (10 : UInt8) ∉ (lnD d).data.toList := by
  have := line_words ((d.pins ++ [d.wd, d.len]).map (fun z => numS z.toNat)) (kindS d.kind) fun q hq => by
    rcases List.mem_cons.1 hq with rfl | hq
    · exact PlainW.kind _
    · obtain ⟨z, _, rfl⟩ := List.mem_map.1 hq; exact PlainW.num _
  rw [List.map_cons, List.map_map] at this
  exact this
theorem ln0_words (z : Int) : splL 32 (ln0 z).data.toList = [wNetsL, (numS z.toNat).data.toList] ∧ (10 : UInt8) ∉ (ln0 z).data.toList := by
  refine line_words _ _ fun q hq => ?_
  simp only [List.mem_cons, List.not_mem_nil, or_false] at hq
  rcases hq with rfl | rfl
  · unfold PlainW; decide
  · exact PlainW.num _
/-- Fewer ports and devices are valid too. -/
theorem nlB_less {n : Int} {ds ds' : List Dv} {ps ps' : List Pt} (h : nlB ⟨n, ds ++ ds', ps ++ ps'⟩ = true) : nlB ⟨n, ds, ps⟩ = true := by
  obtain ⟨h1, h2, h3, h4, h5⟩ := nlB_facts h
  simp only [nlB, Bool.and_eq_true, decide_eq_true_eq, List.all_eq_true, ptsB, List.mem_range]
  simp only [List.length_append] at h2 h3 h5
  refine ⟨inB_iff.2 h1, by omega, by omega, fun d hd => h4 d (List.mem_append_left _ hd), fun i hi => ?_⟩
  have := h5 i (by omega)
  unfold ptOk at this ⊢
  rw [List.getElem?_append_left hi] at this
  cases i with
  | zero => exact this
  | succ j => simp only [List.getElem?_append_left (show j < ps.length by omega)] at this; exact this
theorem port_ok {x : Nl} (h : nlB x = true) {p : Pt} (hp : p ∈ x.ps) : nameB p.name = true ∧ 0 ≤ p.net ∧ p.net ≤ 24 := by
  obtain ⟨h1, h2, h3, h4, h5⟩ := nlB_facts h
  obtain ⟨i, hi, e⟩ := List.getElem_of_mem hp
  have := h5 i hi
  unfold ptOk at this
  rw [List.getElem?_eq_getElem hi, e] at this
  simp only [Bool.and_eq_true] at this
  have h6 := inB_iff.1 this.2.1
  exact ⟨this.1, by omega, by omega⟩
theorem prsL_cons (i : Nat) (x : Nl) (l m : List UInt8) (r : List (List UInt8)) : prsL i x (l :: m :: r) = match lineL (decide (i = 0)) x (splL 32 l) with
    | none => (nl0, 4, (i : Int) + 1)
    | some y => if nlB y = true then prsL (i + 1) y (m :: r) else (nl0, 2, (i : Int) + 1) := rfl
theorem prsL_ports : ∀ (qs ps : List Pt) (n : Int) (i : Nat) (R : List (List UInt8)), R ≠ [] → 0 < i → nlB ⟨n, [], ps ++ qs⟩ = true → prsL i ⟨n, [], ps⟩ (qs.map (fun p => (lnP p).data.toList) ++ R) = prsL (i + qs.length) ⟨n, [], ps ++ qs⟩ R
  | [], ps, n, i, R, hR, hi, h => by simp
  | q :: qs, ps, n, i, R, hR, hi, h => by
    have hq := port_ok h (p := q) (by simp)
    have hy : nlB ⟨n, [], ps ++ [q]⟩ = true := nlB_less (ds' := []) (ps' := qs) (by simpa using h)
    have ih := prsL_ports qs (ps ++ [q]) n (i + 1) R hR (by omega) (by simpa using h)
    obtain ⟨l2, R2, hl2⟩ : ∃ l2 R2, qs.map (fun p => (lnP p).data.toList) ++ R = l2 :: R2 := by
      cases hh : qs.map (fun p => (lnP p).data.toList) ++ R with
      | nil => simp at hh; exact absurd hh.2 hR
      | cons a b => exact ⟨a, b, rfl⟩
    rw [List.map_cons, List.cons_append, hl2, prsL_cons]
    have hd : decide (i = 0) = false := decide_eq_false (by omega)
    have hline : lineL false ⟨n, [], ps⟩ [wPortL, q.name.data.toList, (numS q.net.toNat).data.toList] = some ⟨n, [], ps ++ [q]⟩ := by
      have e1 : numL (numS q.net.toNat).data.toList = some q.net.toNat := numL_iff.2 ⟨by omega, by rw [numS_dec]⟩
      have e2 : (⟨q.name.data.toList.toArray⟩ : ByteArray) = q.name := ba_ext rfl
      have e3 : ((q.net.toNat : Nat) : Int) = q.net := by omega
      unfold lineL
      simp [e1, e2, e3, hq.1]
    rw [hd, (lnP_words hq.1).1, hline]
    dsimp only
    rw [if_pos hy, ← hl2, ih]
    simp [Nat.add_assoc, Nat.add_comm, Nat.add_left_comm]
theorem kindL_of {k : Int} (h : inB k 0 2 = true) : kindL (kindS k).data.toList = some k.toNat ∧ ((k.toNat : Nat) : Int) = k ∧ pinN k.toNat = pinsOf k := by
  have := inB_iff.1 h
  have hk : k = 0 ∨ k = 1 ∨ k = 2 := by omega
  rcases hk with rfl | rfl | rfl <;> exact ⟨rfl, rfl, rfl⟩
theorem kindS_port (k : Int) : ¬ (kindS k).data.toList = wPortL := by
  unfold kindS
  split
  · decide
  · split <;> decide
theorem prsL_devs : ∀ (qs ds : List Dv) (ps : List Pt) (n : Int) (i : Nat) (R : List (List UInt8)), R ≠ [] → 0 < i → nlB ⟨n, ds ++ qs, ps⟩ = true → prsL i ⟨n, ds, ps⟩ (qs.map (fun d => (lnD d).data.toList) ++ R) = prsL (i + qs.length) ⟨n, ds ++ qs, ps⟩ R
  | [], ds, ps, n, i, R, hR, hi, h => by simp
  | q :: qs, ds, ps, n, i, R, hR, hi, h => by
    obtain ⟨h1, h2, h3, h4, h5⟩ := nlB_facts h
    obtain ⟨d1, d2, d3, d4, d5, _⟩ := dvB_all (h4 q (by simp))
    have hy : nlB ⟨n, ds ++ [q], ps⟩ = true := nlB_less (ds' := qs) (ps' := []) (by simpa using h)
    have ih := prsL_devs qs (ds ++ [q]) ps n (i + 1) R hR (by omega) (by simpa using h)
    obtain ⟨l2, R2, hl2⟩ : ∃ l2 R2, qs.map (fun d => (lnD d).data.toList) ++ R = l2 :: R2 := by
      cases hh : qs.map (fun d => (lnD d).data.toList) ++ R with
      | nil => simp at hh; exact absurd hh.2 hR
      | cons a b => exact ⟨a, b, rfl⟩
    rw [List.map_cons, List.cons_append, hl2, prsL_cons]
    have hd : decide (i = 0) = false := decide_eq_false (by omega)
    have hline : lineL false ⟨n, ds, ps⟩ ((kindS q.kind).data.toList :: (q.pins ++ [q.wd, q.len]).map (fun z => (numS z.toNat).data.toList)) = some ⟨n, ds ++ [q], ps⟩ := by
      obtain ⟨k1, k2, k3⟩ := kindL_of d1
      have e1 : numsL ((q.pins ++ [q.wd, q.len]).map (fun z => (numS z.toNat).data.toList)) = some (q.pins ++ [q.wd, q.len]) := numsL_some fun z hz => by
        rcases List.mem_append.1 hz with hz | hz
        · have := inB_iff.1 (d5 z hz); dsimp only at h1 this; omega
        · have w1 := inB_iff.1 d3
          have w2 := inB_iff.1 d4
          simp only [List.mem_cons, List.not_mem_nil, or_false] at hz
          rcases hz with rfl | rfl <;> omega
      have e2 : (q.pins ++ [q.wd, q.len]).length = pinN q.kind.toNat + 2 := by rw [k3]; simp [d2]
      have e3 : pinN q.kind.toNat = q.pins.length := by rw [k3, d2]
      unfold lineL
      simp only [Bool.false_eq_true, if_false, if_neg (kindS_port q.kind), k1, e1]
      rw [if_pos e2, e3, k2]
      simp
    rw [hd, (lnD_words q).1, hline]
    dsimp only
    rw [if_pos hy, ← hl2, ih]
    simp [Nat.add_assoc, Nat.add_comm, Nat.add_left_comm]
/-- What is written is read back. -/
theorem prs_fmt {x : Nl} (h : nlB x = true) : prsS (fmtS x) = (x, 0, 0) := by
  obtain ⟨n, ds, ps⟩ := x
  obtain ⟨h1, h2, h3, h4, h5⟩ := nlB_facts h
  have hsp : splL 10 (fmtS ⟨n, ds, ps⟩).data.toList = (ln0 n).data.toList :: (ps.map (fun p => (lnP p).data.toList) ++ (ds.map (fun d => (lnD d).data.toList) ++ [[]])) := by
    have e : (fmtS ⟨n, ds, ps⟩).data.toList = Go.Lib.join ((ln0 n).data.toList :: (ps.map (fun p => (lnP p).data.toList) ++ (ds.map (fun d => (lnD d).data.toList) ++ [[]]))) [10] := by
      rw [← fmtI _ h, ba_app, jnB_data]
      unfold linesI
      rw [List.map_cons, Go.Lib.join_cons, Go.Lib.join_cons]
      simp [Go.Lib.joinTail, nlBt, Function.comp_def]
    rw [e]
    refine splL_of_join _ _ fun p hp => ?_
    rcases List.mem_cons.1 hp with rfl | hp
    · exact (ln0_words n).2
    · rcases List.mem_append.1 hp with hp | hp
      · obtain ⟨q, hq, rfl⟩ := List.mem_map.1 hp
        exact (lnP_words (port_ok h hq).1).2
      · rcases List.mem_append.1 hp with hp | hp
        · obtain ⟨q, hq, rfl⟩ := List.mem_map.1 hp
          exact (lnD_words q).2
        · simp only [List.mem_singleton] at hp
          subst hp
          simp
  have hv0 : nlB ⟨n, [], []⟩ = true := nlB_less (ds' := ds) (ps' := ps) (by simpa using h)
  have hv1 : nlB ⟨n, [], ps⟩ = true := nlB_less (ds' := ds) (ps' := []) (by simpa using h)
  have e1 : numL (numS n.toNat).data.toList = some n.toNat := numL_iff.2 ⟨by dsimp only at h1; omega, by rw [numS_dec]⟩
  have e3 : ((n.toNat : Nat) : Int) = n := by dsimp only at h1; omega
  have hline : lineL true nl0 [wNetsL, (numS n.toNat).data.toList] = some ⟨n, [], []⟩ := by
    simp [lineL, numsL, e1, e3, nl0]
  obtain ⟨l2, R2, hl2⟩ : ∃ l2 R2, (ps.map (fun p => (lnP p).data.toList) ++ (ds.map (fun d => (lnD d).data.toList) ++ [[]])) = l2 :: R2 := by
    cases hh : (ps.map (fun p => (lnP p).data.toList) ++ (ds.map (fun d => (lnD d).data.toList) ++ [[]])) with
    | nil => simp at hh
    | cons a b => exact ⟨a, b, rfl⟩
  unfold prsS
  rw [hsp, hl2, prsL_cons]
  rw [decide_eq_true rfl, (ln0_words n).1, hline]
  dsimp only
  rw [if_pos hv0, ← hl2, prsL_ports ps [] n _ _ (by simp) (by omega) (by simpa using hv1), List.nil_append, prsL_devs ds [] ps n _ _ (by simp) (by omega) (by simpa using h), List.nil_append]
  unfold prsL
  rw [if_pos ⟨by omega, rfl⟩]
end Go.Proofs.YtglddnkpccgchaaDoor

/- Renaming by the identity changes nothing: plain. -/
namespace Go.Proofs.YtglddnkpccgchaaDoor
open Go.RowKit
set_option linter.unusedVariables false
set_option linter.unusedSimpArgs false
theorem nm_iota {n : Nat} {p : Int} (h : 0 ≤ p ∧ p < n) : nmOf (iota n) p = p := by
  unfold nmOf
  rw [List.getD_eq_getElem?_getD, iota_get n p.toNat (by omega)]
  simp; omega
theorem ren_iota {x : Nl} (h : nlB x = true) : renS x (iota x.nets.toNat) x.nets = x := by
  obtain ⟨⟨n0, n1⟩, h2, h3, h4, h5⟩ := nlB_facts h
  have e1 : x.ds.map (renD (iota x.nets.toNat)) = x.ds := by
    conv => rhs; rw [← List.map_id x.ds]
    apply List.map_congr_left
    intro d hd
    have := (dvB_pins (h4 d hd)).2.2
    have e : d.pins.map (nmOf (iota x.nets.toNat)) = d.pins := by
      conv => rhs; rw [← List.map_id d.pins]
      apply List.map_congr_left
      intro p hp
      exact nm_iota (by have := this p hp; omega)
    show (⟨d.kind, d.pins.map (nmOf (iota x.nets.toNat)), d.wd, d.len⟩ : Dv) = d
    rw [e]
  have e2 : x.ps.map (renP (iota x.nets.toNat)) = x.ps := by
    conv => rhs; rw [← List.map_id x.ps]
    apply List.map_congr_left
    intro p hp
    obtain ⟨i, hi, e⟩ := List.getElem_of_mem hp
    have h1 := h5 i hi
    unfold ptOk at h1
    rw [List.getElem?_eq_getElem hi, e] at h1
    simp only [Bool.and_eq_true] at h1
    have h6 := inB_iff.1 h1.2.1
    show (⟨p.name, nmOf (iota x.nets.toNat) p.net⟩ : Pt) = p
    rw [nm_iota (by omega)]
  unfold renS
  rw [e1, e2]
end Go.Proofs.YtglddnkpccgchaaDoor

/- The library's words for cutting and reading, at one byte: plain. -/
namespace Go.Proofs.YtglddnkpccgchaaDoor
open Go.RowKit
set_option linter.unusedVariables false
set_option linter.unusedSimpArgs false

theorem pre_one (c b : UInt8) (l : List UInt8) : ([c] : List UInt8).isPrefixOf (b :: l) = (c == b) := by simp [List.isPrefixOf]
theorem index_no (c : UInt8) : ∀ l : List UInt8, c ∉ l → Go.Lib.index l [c] = -1
  | [], _ => rfl
  | b :: l, h => by
    have h1 : (c == b) = false := by
      simp only [List.mem_cons, not_or] at h
      simpa using h.1
    have h2 := index_no c l (fun e => h (List.mem_cons_of_mem _ e))
    unfold Go.Lib.index
    rw [pre_one, h1, h2]
    rfl
theorem index_at (c : UInt8) : ∀ (p r : List UInt8), c ∉ p → Go.Lib.index (p ++ c :: r) [c] = (p.length : Int)
  | [], r, _ => by simp [Go.Lib.index, List.isPrefixOf]
  | b :: p, r, h => by
    have h1 : (c == b) = false := by
      simp only [List.mem_cons, not_or] at h
      simpa using h.1
    have h2 := index_at c p r (fun e => h (List.mem_cons_of_mem _ e))
    rw [List.cons_append]
    unfold Go.Lib.index
    rw [pre_one, h1, h2]
    have : ¬ (((p.length : Int) == -1) = true) := by simp
    rw [if_neg (by simp), if_neg this]
    simp
theorem split_first (c : UInt8) : ∀ l : List UInt8, c ∉ l ∨ ∃ p r, l = p ++ c :: r ∧ c ∉ p
  | [] => .inl (by simp)
  | b :: l => by
    by_cases hb : b = c
    · exact .inr ⟨[], l, by simp [hb], by simp⟩
    · rcases split_first c l with h | ⟨p, r, h1, h2⟩
      · exact .inl (by simp only [List.mem_cons, not_or]; exact ⟨fun e => hb e.symm, h⟩)
      · exact .inr ⟨b :: p, r, by rw [h1]; rfl, by simp only [List.mem_cons, not_or]; exact ⟨fun e => hb e.symm, h2⟩⟩
theorem splitK_splL (c : UInt8) : ∀ (k : Nat) (l : List UInt8), l.length ≤ k → Go.Lib.splitK [c] 0 (Go.Lib.count l [c]) l = splL c l
  | k, l, hk => by
    rcases split_first c l with h | ⟨p, r, h1, h2⟩
    · rw [Go.Lib.count_miss (index_no c l h), splL_no h]
      rfl
    · have hi := index_at c p r h2
      rw [← h1] at hi
      have hlen : l.length = p.length + 1 + r.length := by rw [h1]; simp; omega
      have hd : l.drop (p.length + [c].length) = r := by rw [h1]; simp
      have ht : l.take (p.length + 0) = p := by rw [h1]; simp
      have hc := Go.Lib.count_hit (s := l) (sub := [c]) (by simp) hi
      rw [hd] at hc
      rw [hc, Nat.add_comm 1]
      unfold Go.Lib.splitK
      have hm : ¬ ((Go.Lib.index l [c] == -1) = true) := by rw [hi]; simp
      rw [if_neg hm, hi, Int.toNat_natCast, ht, hd]
      conv => rhs; rw [h1, splL_app r h2]
      match k with
      | 0 => omega
      | k + 1 => rw [splitK_splL c k r (by omega)]
theorem cut_no {c : UInt8} {l : List UInt8} (h : c ∉ l) : Go.Lib.cut l [c] = (l, [], false) := by
  unfold Go.Lib.cut
  rw [index_no c l h, if_neg (by omega)]
theorem cut_at {c : UInt8} {p r : List UInt8} (h : c ∉ p) : Go.Lib.cut (p ++ c :: r) [c] = (p, r, true) := by
  unfold Go.Lib.cut
  rw [index_at c p r h, if_pos (by omega), Int.toNat_natCast]
  simp
/-- The words of a text, as strings. -/
def wrdS (c : UInt8) (s : ByteArray) : List ByteArray := (splL c s.data.toList).map fun l => ⟨l.toArray⟩
theorem splitB_wrd (c : UInt8) (s : ByteArray) : Go.Lib.splitB ⟨#[c]⟩ 0 (Go.Lib.countB s ⟨#[c]⟩) s = wrdS c s := by
  have h := Go.Lib.splitB_data ⟨#[c]⟩ 0 (Go.Lib.countB s ⟨#[c]⟩) s
  have h2 : Go.Lib.splitK [c] 0 (Go.Lib.countB s ⟨#[c]⟩) s.data.toList = splL c s.data.toList := splitK_splL c _ s.data.toList (Nat.le_refl _)
  have h3 : (Go.Lib.splitB ⟨#[c]⟩ 0 (Go.Lib.countB s ⟨#[c]⟩) s).map (fun b : ByteArray => b.data.toList) = splL c s.data.toList := h.trans h2
  unfold wrdS
  rw [← h3, List.map_map]
  conv => lhs; rw [← List.map_id (Go.Lib.splitB ⟨#[c]⟩ 0 (Go.Lib.countB s ⟨#[c]⟩) s)]
  apply List.map_congr_left
  intro b _
  exact (ba_ext rfl : b = ⟨b.data.toList.toArray⟩)

/-- A decimal form that is read. -/
def rdD (l : List UInt8) : Option Int := if l.length ≤ 19 then (match Go.Lib.parseIntB 64 l with | .ok v => if Go.Lib.itoa v = l then some v else none | _ => none) else none
theorem decFrom_val : ∀ (l : List UInt8) (acc : Nat), l.all isDg = true → Go.Lib.decFrom acc l = some (l.foldl (fun n b => 10 * n + (b.toNat - 48)) acc)
  | [], acc, _ => rfl
  | b :: l, acc, h => by
    simp only [List.all_cons, Bool.and_eq_true] at h
    have hb : 48 ≤ b.toNat ∧ b.toNat ≤ 57 := by simpa [isDg] using h.1
    have ih := decFrom_val l (10 * acc + (b.toNat - 48)) h.2
    have hd : Go.Lib.digitVal b = some (b.toNat - 48) := by
      unfold Go.Lib.digitVal
      simp [hb]
    unfold Go.Lib.decFrom
    rw [hd]
    simp only [List.foldl_cons]
    rw [← ih]
    first | rfl | (rw [Nat.mul_comm 10 acc])
theorem parse_dec {n : Nat} (h : n ≤ 9999999) : Go.Lib.parseIntB 64 (Go.Lib.decDigits n) = .ok (n : Int) := by
  obtain ⟨f1, f2, f3, f4, _⟩ := dec_facts n
  have hl := len_dec n 7 (by omega) (by omega)
  rw [Go.Lib.parseIntB_64, Go.Lib.atoiAll_short _ (by omega)]
  have : Go.Lib.atoi (Go.Lib.decDigits n) = some (n : Int) := by
    match hd : Go.Lib.decDigits n with
    | [] => rw [hd] at f1; simp at f1
    | b :: r =>
      have hb : 48 ≤ b.toNat ∧ b.toNat ≤ 57 := by
        rw [hd] at f3
        simp only [List.all_cons, Bool.and_eq_true] at f3
        simpa [isDg] using f3.1
      have h1 : (b == 45) = false := by
        rw [beq_eq_false_iff_ne]
        intro e; subst e; have : (45 : UInt8).toNat = 45 := rfl; omega
      have h2 : (b == 43) = false := by
        rw [beq_eq_false_iff_ne]
        intro e; subst e; have : (43 : UInt8).toNat = 43 := rfl; omega
      unfold Go.Lib.atoi
      dsimp only
      rw [h1, h2]
      simp only [Bool.false_eq_true, if_false]
      unfold Go.Lib.decNat
      rw [hd] at f2 f3
      rw [if_neg (by simp), decFrom_val _ 0 f3]
      have : (b :: r).foldl (fun n b => 10 * n + (b.toNat - 48)) 0 = n := f2
      rw [this]
      rfl
  rw [this]
  rfl
theorem itoa_nat (n : Nat) : Go.Lib.itoa (n : Int) = Go.Lib.decDigits n := by unfold Go.Lib.itoa; rw [if_neg (by omega), Int.toNat_natCast]
theorem rdD_dec {n : Nat} (h : n ≤ 9999999) : rdD (Go.Lib.decDigits n) = some (n : Int) := by
  have hl := len_dec n 7 (by omega) (by omega)
  unfold rdD
  rw [if_pos (by omega), parse_dec h]
  dsimp only
  rw [itoa_nat, if_pos rfl]
theorem rdD_form {l : List UInt8} {v : Int} (h : rdD l = some v) : Go.Lib.itoa v = l := by
  unfold rdD at h
  by_cases h1 : l.length ≤ 19
  · rw [if_pos h1] at h
    cases h2 : Go.Lib.parseIntB 64 l with
    | ok u =>
      rw [h2] at h
      dsimp only at h
      by_cases h3 : Go.Lib.itoa u = l
      · rw [if_pos h3] at h; cases h; exact h3
      · rw [if_neg h3] at h; cases h
    | range => rw [h2] at h; cases h
    | _ => rw [h2] at h; cases h
  · rw [if_neg h1] at h; cases h
/-- The program reads the same numbers as the reference. -/
theorem rd_yes {l : List UInt8} {v : Int} (h : rdD l = some v) (h0 : 0 ≤ v ∧ v ≤ 9999999) : numL l = some v.toNat := by
  have := rdD_form h
  refine numL_iff.2 ⟨by omega, ?_⟩
  rw [← this]
  unfold Go.Lib.itoa
  rw [if_neg (by omega)]
theorem rd_out {l : List UInt8} {v : Int} (h : rdD l = some v) (h0 : ¬ (0 ≤ v ∧ v ≤ 9999999)) : numL l = none := by
  match hn : numL l with
  | none => rfl
  | some n =>
    obtain ⟨h1, h2⟩ := numL_iff.1 hn
    rw [h2, rdD_dec h1] at h
    cases h
    omega
theorem rd_no {l : List UInt8} (h : rdD l = none) : numL l = none := by
  match hn : numL l with
  | none => rfl
  | some n =>
    obtain ⟨h1, h2⟩ := numL_iff.1 hn
    rw [h2, rdD_dec h1] at h
    cases h
end Go.Proofs.YtglddnkpccgchaaDoor
