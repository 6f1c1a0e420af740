/- The reference's small functions over words: l16Split, l16Parse. -/
import Derived.Test.YtglddnkpccgchaaDoorPrsB
import Derived.Test.YtglddnkpccgchaaDoorBldS
import Derived.Test.YtglddnkpccgchaaDoorOrdB
import Derived.Deep.DeepCutAuto
namespace Go.Proofs.YtglddnkpccgchaaDoor
open Go.RowKit
set_option linter.unusedVariables false
set_option linter.unusedSimpArgs false

def mkB (l : List UInt8) : ByteArray := ⟨l.toArray⟩
theorem wrdS_mk (c : UInt8) (s : ByteArray) : wrdS c s = (splL c s.data.toList).map mkB := rfl
theorem take_no {α : Type} {l : List α} {a b : Nat} {c : α} (hn : ∀ j, a ≤ j → j < b → l[j]? ≠ some c) : c ∉ (l.drop a).take (b - a) := by
  intro h
  obtain ⟨i, hi, e⟩ := List.getElem_of_mem h
  have h1 : ((l.drop a).take (b - a))[i]? = some c := by rw [List.getElem?_eq_getElem hi, e]
  simp only [List.length_take, List.length_drop] at hi
  rw [List.getElem?_take_of_lt (by omega), List.getElem?_drop] at h1
  exact hn (a + i) (by omega) (by omega) h1
theorem cut_here {l : List UInt8} {a b : Nat} {c : UInt8} (hab : a ≤ b) (hn : ∀ j, a ≤ j → j < b → l[j]? ≠ some c) (hb : l[b]? = some c) : splL c (l.drop a) = ((l.drop a).take (b - a)) :: splL c (l.drop (b + 1)) := by
  have hbl : b < l.length := (List.getElem?_eq_some_iff.1 hb).1
  have e : l.drop a = (l.drop a).take (b - a) ++ c :: l.drop (b + 1) := by
    conv => lhs; rw [← List.take_append_drop (b - a) (l.drop a)]
    rw [List.drop_drop, show a + (b - a) = b by omega]
    rw [List.drop_eq_getElem_cons hbl]
    congr 2
    exact (List.getElem?_eq_some_iff.1 hb).2
  conv => lhs; rw [e]
  exact splL_app _ (take_no hn)
theorem cut_end {l : List UInt8} {a : Nat} {c : UInt8} (hn : ∀ j, a ≤ j → j < l.length → l[j]? ≠ some c) : splL c (l.drop a) = [(l.drop a).take (l.length - a)] := by
  have e : (l.drop a).take (l.length - a) = l.drop a := List.take_of_length_le (by simp)
  have := take_no hn
  rw [e] at this ⊢
  exact splL_no this
theorem extract_mk (s : ByteArray) (a b : Nat) (h : b ≤ s.size) : s.extract a b = mkB ((s.data.toList.drop a).take (b - a)) := by
  apply ba_ext
  unfold mkB
  simp [ByteArray.data_extract, Array.toList_extract, List.extract]
theorem data_at (s : ByteArray) (i : Nat) (h : i < s.size) : s.data.toList[i]? = some s[i] := by
  rw [List.getElem?_eq_getElem (by simpa using h)]
  rfl

set_option maxRecDepth 100000 in
set_option maxHeartbeats 2000000 in
theorem l16Split_any (s : ByteArray) (c : UInt8) (w : World) (hs : s.size ≤ 1048576) :
    Calls Tryd.prog 31 #[.string s, .int .u8 (c.toNat : Int)] w fun e w' => ∃ v, e = .returned v ∧ BldS w' w.heap.size w'.heap.size v (wrdS c s) ∧ Below w.heap.size w w' := by
  obtain ⟨l, hl⟩ : ∃ l, s.data.toList = l := ⟨_, rfl⟩
  have hll : l.length = s.size := by rw [← hl]; exact size_data s
  have HAT := Lib.hid (fun (i : Nat) (h : i < s.size) => show l[i]? = some s[i] from by rw [← hl]; exact data_at s i h)
  have HEX := Lib.hid (fun a b h => show s.extract a b = mkB ((l.drop a).take (b - a)) from by rw [← hl]; exact extract_mk s a b h)
  have HW : Hid (wrdS c s = (splL c l).map mkB) := Lib.hid (by rw [wrdS_mk, hl])
  have HLL := Lib.hid hll
  clear hl hll
  go_enter Tryd.func31, Tryd.ntmps31
  go_wp2
  go_loopw [5, 6, 7] (fun u vf vi wr => ∃ (i f hi : Nat) (done : List ByteArray), vi = .int .i64 (i : Int) ∧ vf = .int .i64 (f : Int) ∧ i ≤ s.size + 1 ∧ f ≤ i ∧ Hid (done.length ≤ i) ∧ Hid (BldS wr w.heap.size hi u done) ∧ w.heap.size < hi ∧ Below w.heap.size w wr ∧ Hid (i ≤ s.size → (∀ j, f ≤ j → j < i → l[j]? ≠ some c) ∧ done ++ (splL c (l.drop f)).map mkB = (splL c l).map mkB) ∧ Hid (i = s.size + 1 → done = (splL c l).map mkB)) (fun _ _ vi _ => s.size + 1 - (intOf vi).toNat)
  case atStart =>
    refine ⟨0, 0, w.heap.size + 1, [], rfl, rfl, Nat.zero_le _, Nat.le_refl _, Lib.hid (Nat.zero_le _), Lib.hid ?_, by omega, (by ((repeat (first | (with_reducible exact Below.refl _ _) | (with_reducible refine below_drewN ?_ _) | (with_reducible refine Below.drew ?_) | (with_reducible refine below_al ?_ _) | (with_reducible refine below_on (by assumption) ?_) | ((with_reducible refine Below.setCell ?_ ?_ _); rotate_left; focus (first | omega | (simp; done) | (simp; omega))) | (with_reducible assumption))); done)), Lib.hid (fun _ => ⟨fun j _ h => by omega, by simp⟩), Lib.hid (fun h => by omega)⟩
    have hB : Blk (w.alloc (.cells #[] 9)) w.heap.size #[] 9 := Blk.new _ rfl
    exact BldS.lit (zs := []) hB rfl (by simp) (Nat.le_refl _) (by omega) (by simp)
  case round =>
    obtain ⟨i, f, hi, done, rfl, rfl, hi1, hfi, HDL, HB, hhi, hb, HI, HE⟩ := hrel
    obtain ⟨a, cc, rfl⟩ := HB.out.sized
    obtain ⟨L, hL⟩ : ∃ L, done.length = L := ⟨_, rfl⟩
    rw [hL] at HB HDL ⊢
    have HL := Lib.hid hL
    have hLi := HDL.out
    have hIs := HB.out.1
    clear hL
    by_cases hlt : i < s.size
    · have i1 : (i : Int) ≤ (s.size : Int) := by omega
      have i2 : ((i : Int) == (s.size : Int)) = false := by simp; omega
      have i3 : (0 : Int) ≤ (i : Int) := by omega
      have i4 : (i : Int) < (s.size : Int) := by omega
      have hI := HI.out (by omega)
      by_cases hc : s[i] = c
      · have hcut := cut_here hfi hI.1 (by rw [HAT.out i hlt, hc])
        have hx := HEX.out f i (by omega)
        obtain ⟨X, hX⟩ : ∃ X, s.extract f i = X := ⟨_, rfl⟩
        have HX := Lib.hid hX
        have hcc : ((s[i].toNat : Int) == (c.toNat : Int)) = true := by rw [hc]; simp
        have hnew : (done ++ [X]) ++ (splL c (l.drop (i + 1))).map mkB = (splL c l).map mkB := by
          rw [← hI.2, hcut, ← hX, hx]
          simp
        have HNEW := Lib.hid hnew
        have j1 : (0 : Int) ≤ (f : Int) := by omega
        have j2 : (f : Int) ≤ (i : Int) := by omega
        clear hnew hcut hI hc HI HE hx hX
        go_wp2_with (refine list_pushS (by rfl) _ _ (by rfl) w.heap.size hi (.slice a L cc) done [s.extract f i] (by rfl) (HB.out.by (by ((repeat (first | (with_reducible exact Below.refl _ _) | (with_reducible refine below_drewN ?_ _) | (with_reducible refine Below.drew ?_) | (with_reducible refine below_al ?_ _) | (with_reducible refine below_on (by assumption) ?_) | ((with_reducible refine Below.setCell ?_ ?_ _); rotate_left; focus (first | omega | (simp; done) | (simp; omega))) | (with_reducible assumption))); done))) wr.heap.size 1 #[.string (s.extract f i)] (by rfl) (by rfl) (by omega) (Blk.new _ rfl) (by rfl) (by omega) (by rw [HL.out]; omega) ?_; intro a5 c5 w5 hB5 hw5; have HB5 := Lib.hid hB5; rw [HL.out]; clear hB5)
        have hsz := hw5.size
        simp only [World.size_alloc] at hsz
        refine ⟨⟨i + 1, i + 1, w5.heap.size, done ++ [X], by go_num, by go_num, by omega, Nat.le_refl _, Lib.hid (by simp [HL.out]; omega), Lib.hid ?_, by omega, hw5.below (below_al hb _) (by omega), Lib.hid (fun _ => ⟨fun j h1 h2 => by omega, HNEW.out⟩), Lib.hid (fun h => by omega)⟩, by simp [intOf]; omega⟩
        have := HB5.out
        rw [HL.out, HX.out] at this
        exact this
      · have hcc : ((s[i].toNat : Int) == (c.toNat : Int)) = false := by
          simp only [beq_eq_false_iff_ne, ne_eq]
          intro e
          exact hc (UInt8.toNat_inj.1 (by omega))
        have hno : ∀ j, f ≤ j → j < i + 1 → l[j]? ≠ some c := fun j h1 h2 => by
          by_cases hj : j = i
          · subst hj
            rw [HAT.out j hlt]
            intro e
            exact hc (Option.some.inj e)
          · exact hI.1 j h1 (by omega)
        have HNO := Lib.hid (And.intro hno hI.2)
        clear hno hI hc HI HE
        go_wp2
        exact ⟨⟨i + 1, f, hi, done, by go_num, rfl, by omega, by omega, Lib.hid (by rw [HL.out]; omega), HB, hhi, hb, Lib.hid (fun _ => HNO.out), Lib.hid (fun h => by omega)⟩, by simp [intOf]; omega⟩
    · by_cases heq : i = s.size
      · have i1 : (i : Int) ≤ (s.size : Int) := by omega
        have i2 : ((i : Int) == (s.size : Int)) = true := by simp; omega
        have hI := HI.out (by omega)
        have hcut := cut_end (l := l) (a := f) (c := c) (fun j h1 h2 => hI.1 j h1 (by have := HLL.out; omega))
        have hx := HEX.out f i (by omega)
        obtain ⟨X, hX⟩ : ∃ X, s.extract f i = X := ⟨_, rfl⟩
        have HX := Lib.hid hX
        have hnew : done ++ [X] = (splL c l).map mkB := by
          rw [← hI.2, hcut, ← hX, hx, HLL.out, heq]
          simp
        have HNEW := Lib.hid hnew
        have j1 : (0 : Int) ≤ (f : Int) := by omega
        have j2 : (f : Int) ≤ (i : Int) := by omega
        have HEQ := Lib.hid heq
        clear hnew hcut hI HI HE hx hX heq hlt
        go_wp2_with (refine list_pushS (by rfl) _ _ (by rfl) w.heap.size hi (.slice a L cc) done [s.extract f i] (by rfl) (HB.out.by (by ((repeat (first | (with_reducible exact Below.refl _ _) | (with_reducible refine below_drewN ?_ _) | (with_reducible refine Below.drew ?_) | (with_reducible refine below_al ?_ _) | (with_reducible refine below_on (by assumption) ?_) | ((with_reducible refine Below.setCell ?_ ?_ _); rotate_left; focus (first | omega | (simp; done) | (simp; omega))) | (with_reducible assumption))); done))) wr.heap.size 1 #[.string (s.extract f i)] (by rfl) (by rfl) (by omega) (Blk.new _ rfl) (by rfl) (by omega) (by rw [HL.out]; omega) ?_; intro a5 c5 w5 hB5 hw5; have HB5 := Lib.hid hB5; rw [HL.out]; clear hB5)
        have hsz := hw5.size
        simp only [World.size_alloc] at hsz
        have heq := HEQ.out
        refine ⟨⟨i + 1, i + 1, w5.heap.size, done ++ [X], by go_num, by go_num, by omega, Nat.le_refl _, Lib.hid (by simp [HL.out]; omega), Lib.hid ?_, by omega, hw5.below (below_al hb _) (by omega), Lib.hid (fun h => by omega), Lib.hid (fun _ => HNEW.out)⟩, by simp [intOf]; omega⟩
        have := HB5.out
        rw [HL.out, HX.out] at this
        exact this
      · obtain rfl : i = s.size + 1 := by omega
        have hE := HE.out rfl
        have i1 : ¬ (((s.size + 1 : Nat) : Int)) ≤ (s.size : Int) := by omega
        have HB2 := Lib.hid (show BldS wr w.heap.size wr.heap.size (.slice a L cc) (wrdS c s) from by
          rw [HW.out, ← hE]
          have hs := HB.out
          exact ⟨Nat.le_refl _, hs.2.1, fun g hg => by have := hs.2.2 g hg; omega⟩)
        clear hE HB HI HE
        go_wp2
        go_ret
        exact ⟨_, rfl, HB2.out, hb⟩

theorem num_short {l : List UInt8} (h : ¬ (1 ≤ l.length ∧ l.length ≤ 7)) : numL l = none := by unfold numL; rw [if_neg (fun e => h e.1)]
theorem num_zero {l : List UInt8} (h : 1 < l.length) (h0 : l[0]? = some 48) : numL l = none := by
  unfold numL
  rw [if_neg]
  rintro ⟨_, h2, _⟩
  rcases h2 with h2 | h2
  · omega
  · rw [List.head?_eq_getElem?] at h2; exact h2 h0
theorem num_bad {l : List UInt8} {i : Nat} {b : UInt8} (h : l[i]? = some b) (hb : isDg b = false) : numL l = none := by
  unfold numL
  rw [if_neg]
  rintro ⟨_, _, h3⟩
  rw [List.all_eq_true] at h3
  have := h3 b (List.mem_of_getElem? h)
  rw [hb] at this
  cases this
theorem num_good {l : List UInt8} (h1 : 1 ≤ l.length ∧ l.length ≤ 7) (h2 : ¬ (1 < l.length ∧ l[0]? = some 48)) (h3 : l.all isDg = true) : numL l = some (valL l) := by
  unfold numL
  rw [if_pos]
  refine ⟨h1, ?_, h3⟩
  by_cases h : l.length = 1
  · exact .inl h
  · refine .inr ?_
    rw [List.head?_eq_getElem?]
    exact fun e => h2 ⟨by omega, e⟩
theorem take_val {l : List UInt8} {i : Nat} {b : UInt8} (h : l[i]? = some b) : valL (l.take (i + 1)) = 10 * valL (l.take i) + (b.toNat - 48) := by
  rw [List.take_add_one, h]
  exact valL_snoc _ _
theorem take_all {l : List UInt8} {i : Nat} {b : UInt8} (h : l[i]? = some b) (hb : isDg b = true) (ha : (l.take i).all isDg = true) : (l.take (i + 1)).all isDg = true := by
  rw [List.take_add_one, h, List.all_append, ha]
  simp [hb]

set_option maxRecDepth 100000 in
set_option maxHeartbeats 2000000 in
theorem l16Parse_any (s : ByteArray) (w : World) (hs : s.size ≤ 1048576) :
    Calls Tryd.prog 64 #[.string s, .int .i64 7] w fun e w' => e = .returned (.tuple #[.int .i64 (((numL s.data.toList).getD 0 : Nat) : Int), .bool (numL s.data.toList).isSome]) ∧ Below w.heap.size w w' := by
  obtain ⟨l, hl⟩ : ∃ l, s.data.toList = l := ⟨_, rfl⟩
  have hll : l.length = s.size := by rw [← hl]; exact size_data s
  have HAT := Lib.hid (fun (i : Nat) (h : i < s.size) => show l[i]? = some s[i] from by rw [← hl]; exact data_at s i h)
  rw [hl]
  have HLL := Lib.hid hll
  by_cases h1 : 1 ≤ s.size ∧ s.size ≤ 7
  · by_cases h2 : 1 < s.size ∧ l[0]? = some 48
    · rw [num_zero (by omega) h2.2]
      have i4 : 0 < s.size := by omega
      have hs0 : s[0]'i4 = 48 := by
        have := HAT.out 0 i4
        rw [this] at h2
        exact Option.some.inj h2.2
      have e1 : (((s[0]'i4).toNat : Int) == 48) = true := by rw [hs0]; rfl
      have i1 : decide ((s.size : Int) < 1) = false := decide_eq_false (by omega)
      have i2 : decide ((7 : Int) < (s.size : Int)) = false := decide_eq_false (by omega)
      have i3 : decide ((1 : Int) < (s.size : Int)) = true := decide_eq_true (by omega)
      have i5 : (0 : Int) < (s.size : Int) := by omega
      have e1' : Hid (((s[0].toNat : Int) == 48) = true) := Lib.hid e1
      clear hs0 hll hl
      go_enter Tryd.func64, Tryd.ntmps64
      go_wp2
      refine bodyPost_ret (v := .tuple #[.int .i64 0, .bool false]) (by simp [results, Tryd.results64, go_sem, *]) rfl ⟨rfl, (by ((repeat (first | (with_reducible exact Below.refl _ _) | (with_reducible refine below_drewN ?_ _) | (with_reducible refine Below.drew ?_) | (with_reducible refine below_al ?_ _) | (with_reducible refine below_on (by assumption) ?_) | ((with_reducible refine Below.setCell ?_ ?_ _); rotate_left; focus (first | omega | (simp; done) | (simp; omega))) | (with_reducible assumption))); done))⟩
    · have HG := Lib.hid (fun h3 => num_good (l := l) (by omega) (by rw [hll]; exact h2) h3)
      have hv : ∀ i, i ≤ s.size → (l.take i).all isDg = true → valL (l.take i) < 10000000 := fun i hi ha => by
        have := val_lt _ (l.take i) rfl ha
        have h10 : 10 ^ (l.take i).length ≤ 10 ^ 7 := Nat.pow_le_pow_right (by omega) (by rw [List.length_take]; omega)
        omega
      have HV := Lib.hid hv
      have i1 : decide ((s.size : Int) < 1) = false := decide_eq_false (by omega)
      have i2 : decide ((7 : Int) < (s.size : Int)) = false := decide_eq_false (by omega)
      have i4 : (0 : Nat) < s.size := by omega
      have i5 : (0 : Int) < (s.size : Int) := by omega
      have hz : Hid (decide ((1 : Int) < (s.size : Int)) = false ∨ (decide ((1 : Int) < (s.size : Int)) = true ∧ (((s[0]'i4).toNat : Int) == 48) = false)) := Lib.hid (by
        by_cases h : 1 < s.size
        · refine .inr ⟨decide_eq_true (by omega), ?_⟩
          have h0 := HAT.out 0 (by omega)
          simp only [beq_eq_false_iff_ne, ne_eq]
          intro e
          apply h2
          refine ⟨h, ?_⟩
          rw [h0]
          congr 1
          apply UInt8.toNat_inj.1
          have : (48 : UInt8).toNat = 48 := rfl
          omega
        · exact .inl (decide_eq_false (by omega)))
      have HS7 := Lib.hid h1.2
      clear h1 h2 hll hl hv
      rcases hz.out with i3 | ⟨i3, i6⟩
      all_goals
        go_enter Tryd.func64, Tryd.ntmps64
        go_upto_region 5 with fail
        go_loopw [6, 7] (fun vn vi wr => ∃ i : Nat, vi = .int .i64 (i : Int) ∧ i ≤ s.size ∧ vn = .int .i64 ((valL (l.take i) : Nat) : Int) ∧ Hid ((l.take i).all isDg = true) ∧ Below w.heap.size w wr) (fun _ vi _ => s.size - (intOf vi).toNat)
        case atStart => exact ⟨0, rfl, Nat.zero_le _, rfl, Lib.hid rfl, (by ((repeat (first | (with_reducible exact Below.refl _ _) | (with_reducible refine below_drewN ?_ _) | (with_reducible refine Below.drew ?_) | (with_reducible refine below_al ?_ _) | (with_reducible refine below_on (by assumption) ?_) | ((with_reducible refine Below.setCell ?_ ?_ _); rotate_left; focus (first | omega | (simp; done) | (simp; omega))) | (with_reducible assumption))); done))⟩
        case round =>
          obtain ⟨i, rfl, hi, rfl, HA, hb⟩ := hrel
          obtain ⟨N, hN⟩ : ∃ N, valL (l.take i) = N := ⟨_, rfl⟩
          have hNb : N < 10000000 := by rw [← hN]; exact HV.out i hi HA.out
          have hs7 := HS7.out
          by_cases hlt : i < s.size
          · have hat := HAT.out i hlt
            have i7 : (0 : Int) ≤ (i : Int) := by omega
            have i8 : (i : Int) < (s.size : Int) := by omega
            by_cases hd : isDg s[i] = true
            · have hb1 : 48 ≤ s[i].toNat ∧ s[i].toNat ≤ 57 := by simpa [isDg] using hd
              have HTV := Lib.hid (take_val hat)
              have HTA := Lib.hid (take_all hat hd HA.out)
              have c1 : decide ((s[i].toNat : Int) < 48) = false := decide_eq_false (by omega)
              have c2 : decide ((57 : Int) < (s[i].toNat : Int)) = false := decide_eq_false (by omega)
              have c3 : IntKind.u8.wrap ((s[i].toNat : Int) - 48) = (s[i].toNat : Int) - 48 := by simp [IntKind.wrap, IntKind.bits, IntKind.signed]; omega
              have c4 : IntKind.i64.wrap (10 * (N : Int)) = 10 * (N : Int) := by rw [IntKind.wrap_i64]; omega
              have c5 : IntKind.i64.wrap ((s[i].toNat : Int) - 48) = (s[i].toNat : Int) - 48 := by rw [IntKind.wrap_i64]; omega
              have c6 : IntKind.i64.wrap (10 * (N : Int) + ((s[i].toNat : Int) - 48)) = 10 * (N : Int) + ((s[i].toNat : Int) - 48) := by rw [IntKind.wrap_i64]; omega
              have HB1 := Lib.hid hb1
              have HLT := Lib.hid hlt
              rw [hN] at HTV ⊢
              clear hat hd HA hb1 hN
              go_wp2
              refine ⟨⟨i + 1, by go_num, by have := HLT.out; omega, ?_, HTA, by first | exact hb | exact below_drewN hb _⟩, by have := HLT.out; simp [intOf]; omega⟩
              rw [HTV.out]
              have := HB1.out
              first | (congr 1; omega) | (simp only [Value.int.injEq, true_and]; omega)
            · have hd' : isDg s[i] = false := by simpa using hd
              have hnb := num_bad hat hd'
              have c1 : Hid (decide ((s[i].toNat : Int) < 48) = true ∨ (decide ((s[i].toNat : Int) < 48) = false ∧ decide ((57 : Int) < (s[i].toNat : Int)) = true)) := Lib.hid (by
                by_cases h : s[i].toNat < 48
                · exact .inl (decide_eq_true (by omega))
                · refine .inr ⟨decide_eq_false (by omega), decide_eq_true ?_⟩
                  have : ¬ s[i].toNat ≤ 57 := fun h2 => by
                    have : isDg s[i] = true := by simp [isDg]; omega
                    exact hd this
                  omega)
              have HNB := Lib.hid hnb
              clear hat hd hd' hnb hN
              rcases c1.out with c2 | ⟨c2, c3⟩
              all_goals
                go_wp2
                refine bodyPost_ret (v := .tuple #[.int .i64 0, .bool false]) (by simp [results, Tryd.results64, go_sem, *]) rfl ⟨by rw [HNB.out]; rfl, by first | exact hb | exact below_drewN hb _⟩
          · obtain rfl : i = s.size := by omega
            have hA := HA.out
            rw [← HLL.out, List.take_length] at hA
            have hg := HG.out hA
            have hN2 : valL l = N := by rw [← hN, ← HLL.out, List.take_length]
            rw [hN2] at hg
            have HGG := Lib.hid hg
            have i9 : ¬ (s.size : Int) < (s.size : Int) := by omega
            rw [hN]
            clear hA hg hN2 hN HA
            go_wp2
            refine bodyPost_ret (v := .tuple #[.int .i64 (N : Int), .bool true]) (by simp [results, Tryd.results64, go_sem, *]) rfl ⟨by rw [HGG.out]; rfl, by first | exact hb | exact below_drewN hb _⟩
  · rw [num_short (by rw [hll]; exact h1)]
    have hz : Hid (decide ((s.size : Int) < 1) = true ∨ (decide ((s.size : Int) < 1) = false ∧ decide ((7 : Int) < (s.size : Int)) = true)) := Lib.hid (by
      by_cases h : s.size = 0
      · exact .inl (decide_eq_true (by omega))
      · exact .inr ⟨decide_eq_false (by omega), decide_eq_true (by omega)⟩)
    clear h1 hll hl
    rcases hz.out with i1 | ⟨i1, i2⟩
    all_goals
      go_enter Tryd.func64, Tryd.ntmps64
      go_wp2
      refine bodyPost_ret (v := .tuple #[.int .i64 0, .bool false]) (by simp [results, Tryd.results64, go_sem, *]) rfl ⟨rfl, (by ((repeat (first | (with_reducible exact Below.refl _ _) | (with_reducible refine below_drewN ?_ _) | (with_reducible refine Below.drew ?_) | (with_reducible refine below_al ?_ _) | (with_reducible refine below_on (by assumption) ?_) | ((with_reducible refine Below.setCell ?_ ?_ _); rotate_left; focus (first | omega | (simp; done) | (simp; omega))) | (with_reducible assumption))); done))⟩
end Go.Proofs.YtglddnkpccgchaaDoor

/- The reference's l27Numbers and l16Find. -/
namespace Go.Proofs.YtglddnkpccgchaaDoor
open Go.RowKit
set_option linter.unusedVariables false
set_option linter.unusedSimpArgs false

theorem StrSl.tail {w : World} {g o c n : Nat} {x : ByteArray} {r : List ByteArray} (h : StrSl w (.slice (some ⟨g, o, none⟩) n c) (x :: r)) : n = r.length + 1 ∧ 1 ≤ c ∧ StrSl w (.slice (some ⟨g, o + 1, none⟩) (n - 1) (c - 1)) r := by
  rcases h with ⟨a, c', h1, h2⟩ | ⟨g', o', c', h1, h2, h3, h4⟩
  · cases h2
  · simp only [Value.slice.injEq, Option.some.injEq, Addr.mk.injEq, and_true, List.length_cons] at h1
    obtain ⟨⟨rfl, rfl⟩, rfl, rfl⟩ := h1
    simp only [List.length_cons] at h2
    refine ⟨rfl, by omega, .inr ⟨g, o + 1, c - 1, by simp, by omega, h3, fun i y hy => ?_⟩⟩
    have := h4 (i + 1) y (by simpa using hy)
    rwa [show o + 1 + i = o + (i + 1) by omega]
theorem StrSl.sized {w : World} {v : Value} {zs : List ByteArray} (h : StrSl w v zs) : ∃ a c, v = .slice a zs.length c := by
  rcases h with ⟨a, c, h1, h2⟩ | ⟨g, o, c, h1, _⟩
  · subst h2; exact ⟨a, c, h1⟩
  · exact ⟨_, _, h1⟩
theorem numsL_app : ∀ (a b : List (List UInt8)), numsL (a ++ b) = match numsL a with
    | none => none
    | some x => match numsL b with
      | none => none
      | some y => some (x ++ y)
  | [], b => by
    simp only [List.nil_append, numsL]
    cases numsL b <;> rfl
  | l :: a, b => by
    rw [List.cons_append, numsL, numsL_app a b, numsL]
    cases numL l with
    | none => rfl
    | some n =>
      cases numsL a with
      | none => rfl
      | some x =>
        cases numsL b <;> rfl
theorem numsL_next {L : List (List UInt8)} {i : Nat} {l : List UInt8} {d : List Int} {n : Nat} (hd : numsL (L.take i) = some d) (hl : L[i]? = some l) (hn : numL l = some n) : numsL (L.take (i + 1)) = some (d ++ [(n : Int)]) := by
  rw [List.take_add_one, hl, numsL_app, hd]
  simp [numsL, hn]
theorem numsL_stop {L : List (List UInt8)} {i : Nat} {l : List UInt8} (hl : L[i]? = some l) (hn : numL l = none) : numsL L = none := by
  have h1 : i < L.length := (List.getElem?_eq_some_iff.1 hl).1
  have e : L = L.take i ++ (l :: L.drop (i + 1)) := by
    conv => lhs; rw [← List.take_append_drop i L, List.drop_eq_getElem_cons h1]
    congr 2
    exact (List.getElem?_eq_some_iff.1 hl).2
  rw [e, numsL_app]
  have : numsL (l :: L.drop (i + 1)) = none := by simp [numsL, hn]
  rw [this]
  cases numsL (L.take i) <;> rfl
/-- The words as lists. -/
def lsts (ss : List ByteArray) : List (List UInt8) := ss.map (·.data.toList)

set_option maxRecDepth 100000 in
set_option maxHeartbeats 2000000 in
theorem l27Numbers_any (v : Value) (ss : List ByteArray) (w : World) (h : StrSl w v ss) (hs : ∀ x ∈ ss, x.size ≤ 1048576) (hl : ss.length ≤ 1048577) :
    Calls Tryd.prog 32 #[v] w fun e w' => ∃ v', e = .returned (.tuple #[v', .bool (numsL (lsts ss)).isSome]) ∧ BldI w' w.heap.size w'.heap.size v' ((numsL (lsts ss)).getD []) ∧ Below w.heap.size w w' := by
  have HST := Lib.hid h
  have HSZ := Lib.hid hs
  have HPA := Lib.hid (fun s w h => l16Parse_any s w h)
  have HNX := Lib.hid (fun i l d n => @numsL_next (lsts ss) i l d n)
  have HNS := Lib.hid (fun i l => @numsL_stop (lsts ss) i l)
  have HAT := Lib.hid (fun (i : Nat) (x : ByteArray) (h : ss[i]? = some x) => show (lsts ss)[i]? = some x.data.toList from by unfold lsts; rw [List.getElem?_map, h]; rfl)
  have HTK : Hid ((lsts ss).take ss.length = lsts ss) := Lib.hid (List.take_of_length_le (by simp [lsts]))
  generalize lsts ss = L at *
  obtain ⟨a, c, rfl⟩ := h.sized
  obtain ⟨n, hn⟩ : ∃ n, ss.length = n := ⟨_, rfl⟩
  rw [hn] at HST HTK hl ⊢
  have HN := Lib.hid hn
  clear h hs hn
  go_enter Tryd.func32, Tryd.ntmps32
  go_wp2
  go_loopw [4, 5, 6, 7] (fun u vi v6 v7 wr => ∃ (i hi : Nat) (d : List Int), vi = .int .i64 (i : Int) ∧ i ≤ n ∧ Hid (numsL (L.take i) = some d) ∧ Hid (d.length = i) ∧ Hid (BldI wr w.heap.size hi u d) ∧ w.heap.size < hi ∧ Below w.heap.size w wr) (fun _ vi _ _ _ => n - (intOf vi).toNat)
  case atStart =>
    refine ⟨0, w.heap.size + 1, [], rfl, Nat.zero_le _, Lib.hid rfl, Lib.hid rfl, Lib.hid ?_, by omega, (by ((repeat (first | (with_reducible exact Below.refl _ _) | (with_reducible refine below_drewN ?_ _) | (with_reducible refine Below.drew ?_) | (with_reducible refine below_al ?_ _) | (with_reducible refine below_on (by assumption) ?_) | ((with_reducible refine Below.setCell ?_ ?_ _); rotate_left; focus (first | omega | (simp; done) | (simp; omega))) | (with_reducible assumption))); done))⟩
    have hB : Blk (w.alloc (.cells #[] 2)) w.heap.size #[] 2 := Blk.new _ rfl
    exact BldI.lit (zs := []) hB rfl (by simp) (Nat.le_refl _) (by omega) (by simp)
  case round =>
    obtain ⟨i, hi, d, rfl, hin, HD, HDL, HB, hhi, hb⟩ := hrel
    obtain ⟨a3, c3, rfl⟩ := HB.out.sized
    rw [HDL.out] at HB ⊢
    have hIs := HB.out.1
    by_cases hlt : i < n
    · obtain ⟨x, hx⟩ : ∃ x, ss[i]? = some x := ⟨_, List.getElem?_eq_getElem (by rw [HN.out]; exact hlt)⟩
      rcases HST.out with ⟨_, _, e1, e2⟩ | ⟨g, o, cap, e1, e2, e3, e4⟩
      · exfalso
        have := HN.out
        rw [e2] at this
        simp at this
        omega
      rw [HN.out] at e1
      obtain ⟨rfl, rfl⟩ : a = some ⟨g, o, none⟩ ∧ c = cap := by simpa using e1
      have p1 := cell_by' hb (e4 i x hx)
      have HP := Lib.hid (HPA.out x wr (HSZ.out x (List.mem_of_getElem? hx)))
      have HXA := Lib.hid (HAT.out i x hx)
      have i1 : (0 : Int) ≤ (i : Int) := by omega
      have i2 : (i : Int) < (n : Int) := by omega
      have HLT := Lib.hid hlt
      have hlp := lt_of_cell p1
      clear hx e1 e2 e3 e4
      match hnum : numL x.data.toList with
      | none =>
        have hno := HNS.out i _ HXA.out hnum
        rw [hnum] at HP
        have HNO := Lib.hid hno
        clear hno hnum
        go_wp2_with fail
        refine HP.out.mono ?_
        rintro e w1 ⟨rfl, hb1⟩
        have hbn : Below w.heap.size w w1 := below_on hb1 hb
        have hsn := hbn.size
        have HNB : Hid (BldI (w1.alloc (.cells #[] 2)) w.heap.size (w1.alloc (.cells #[] 2)).heap.size (.slice (some ⟨w1.heap.size, 0, none⟩) 0 0) []) := Lib.hid (BldI.lit (zs := []) (Blk.new _ rfl) rfl (by simp) hsn (by simp) (Nat.le_refl _))
        have hbm : Below w.heap.size w (w1.alloc (.cells #[] 2)) := below_al hbn _
        clear hlp p1
        go_wp2
        refine bodyPost_ret (v := .tuple #[.slice (some ⟨w1.heap.size, 0, none⟩) 0 0, .bool false]) (by simp [results, Tryd.results32, go_sem, *]) rfl ⟨_, by rw [HNO.out]; rfl, by rw [HNO.out]; exact HNB.out, hbm⟩
      | some m =>
        have hyes := HNX.out i _ d m HD.out HXA.out hnum
        rw [hnum] at HP
        have HYES := Lib.hid hyes
        clear hyes hnum
        go_wp2_with fail
        refine HP.out.mono ?_
        rintro e w1 ⟨rfl, hb1⟩
        have HB1 := Lib.hid (HB.out.by hb1)
        have hs1 := hb1.size
        have hbn : Below w.heap.size w w1 := below_on hb1 hb
        clear hb1 HB hlp p1
        go_wp2_with (refine list_pushI (by rfl) _ _ (by rfl) w.heap.size hi (.slice a3 i c3) d [(m : Int)] (by rfl) (HB1.out.by (by ((repeat (first | (with_reducible exact Below.refl _ _) | (with_reducible refine below_drewN ?_ _) | (with_reducible refine Below.drew ?_) | (with_reducible refine below_al ?_ _) | (with_reducible refine below_on (by assumption) ?_) | ((with_reducible refine Below.setCell ?_ ?_ _); rotate_left; focus (first | omega | (simp; done) | (simp; omega))) | (with_reducible assumption))); done))) w1.heap.size 1 #[.int .i64 (m : Int)] (by rfl) (by rfl) (by omega) (Blk.new _ rfl) (by rfl) (by omega) (by rw [HDL.out]; omega) ?_; intro a5 c5 w5 hB5 hw5; have HB5 := Lib.hid hB5; rw [HDL.out]; clear hB5)
        have hsz := hw5.size
        simp only [World.size_alloc] at hsz
        refine ⟨⟨i + 1, w5.heap.size, d ++ [(m : Int)], by go_num, by have := HLT.out; omega, HYES, Lib.hid (by simp [HDL.out]), Lib.hid ?_, by omega, hw5.below (below_al hbn _) (by omega)⟩, by have := HLT.out; simp [intOf]; omega⟩
        have := HB5.out
        rw [HDL.out] at this
        exact this
    · obtain rfl : i = n := by omega
      have hd := HD.out
      rw [HTK.out] at hd
      have i1 : ¬ (i : Int) < (i : Int) := by omega
      have HB2 := Lib.hid (show BldI wr w.heap.size wr.heap.size (.slice a3 i c3) d from ⟨Nat.le_refl _, HB.out.2.1, fun g hg => by have := HB.out.2.2 g hg; omega⟩)
      have HDD := Lib.hid hd
      clear hd HB
      go_wp2
      refine bodyPost_ret (v := .tuple #[.slice a3 i c3, .bool true]) (by simp [results, Tryd.results32, go_sem, *]) rfl ⟨_, by rw [HDD.out]; rfl, by rw [HDD.out]; exact HB2.out, hb⟩
end Go.Proofs.YtglddnkpccgchaaDoor

/- The reference's l16Find at the three kinds' words. -/
namespace Go.Proofs.YtglddnkpccgchaaDoor
open Go.RowKit
set_option linter.unusedVariables false
set_option linter.unusedSimpArgs false

def kindZ (x : ByteArray) : Int := match kindL x.data.toList with | some k => (k : Int) | none => -1
theorem toList_eq (a b : ByteArray) : (a.toList == b.toList) = decide (a = b) := by
  by_cases h : a = b
  · simp [h]
  · rw [decide_eq_false h, beq_eq_false_iff_ne]
    intro e
    rw [ByteArray.toList_eq, ByteArray.toList_eq] at e
    exact h (ba_ext e)

set_option maxRecDepth 100000 in
set_option maxHeartbeats 2000000 in
theorem l16Find_any (g : Nat) (x : ByteArray) (w : World) (h : Blk w g #[.string ⟨#[110]⟩, .string ⟨#[112]⟩, .string ⟨#[114]⟩] 9) :
    Calls Tryd.prog 65 #[.slice (some ⟨g, 0, none⟩) 3 3, .string x] w fun e w' => e = .returned (.int .i64 (kindZ x)) ∧ Below w.heap.size w w' := by
  have hK : Hid (kindZ x = if (⟨#[110]⟩ : ByteArray) = x then 0 else if (⟨#[112]⟩ : ByteArray) = x then 1 else if (⟨#[114]⟩ : ByteArray) = x then 2 else -1) := Lib.hid (by
    have e : ∀ c : UInt8, (x.data.toList = [c]) = ((⟨#[c]⟩ : ByteArray) = x) := fun c => propext ⟨fun h => ba_ext h.symm, fun h => by rw [← h]⟩
    unfold kindZ kindL
    simp only [e]
    by_cases h0 : (⟨#[110]⟩ : ByteArray) = x
    · simp [h0]
    · by_cases h1 : (⟨#[112]⟩ : ByteArray) = x
      · simp [h0, h1]
      · by_cases h2 : (⟨#[114]⟩ : ByteArray) = x <;> simp [h0, h1, h2])
  have hT := toList_eq
  obtain ⟨b0, hb0⟩ : ∃ b, decide ((⟨#[110]⟩ : ByteArray) = x) = b := ⟨_, rfl⟩
  obtain ⟨b1, hb1⟩ : ∃ b, decide ((⟨#[112]⟩ : ByteArray) = x) = b := ⟨_, rfl⟩
  obtain ⟨b2, hb2⟩ : ∃ b, decide ((⟨#[114]⟩ : ByteArray) = x) = b := ⟨_, rfl⟩
  have e0 : (([110] : List UInt8) == x.toList) = b0 := by rw [show ([110] : List UInt8) = (⟨#[110]⟩ : ByteArray).toList by simp, toList_eq, hb0]
  have e1 : (([112] : List UInt8) == x.toList) = b1 := by rw [show ([112] : List UInt8) = (⟨#[112]⟩ : ByteArray).toList by simp, toList_eq, hb1]
  have e2 : (([114] : List UInt8) == x.toList) = b2 := by rw [show ([114] : List UInt8) = (⟨#[114]⟩ : ByteArray).toList by simp, toList_eq, hb2]
  have hB : Hid (kindZ x = if b0 = true then 0 else if b1 = true then 1 else if b2 = true then 2 else -1) := Lib.hid (by rw [hK.out, ← hb0, ← hb1, ← hb2]; simp)
  have q0 : w.cell? ⟨g, 0, none⟩ = some (.string ⟨#[110]⟩) := h.cell 0
  have q1 : w.cell? ⟨g, 1, none⟩ = some (.string ⟨#[112]⟩) := h.cell 1
  have q2 : w.cell? ⟨g, 2, none⟩ = some (.string ⟨#[114]⟩) := h.cell 2
  have lg := h.lt
  generalize kindZ x = K at *
  clear hT hb0 hb1 hb2 h hK
  go_enter Tryd.func65, Tryd.ntmps65
  go_wp2
  go_loopw [5] (fun vi wr => ∃ i : Nat, vi = .int .i64 (i : Int) ∧ i ≤ 3 ∧ wr = w ∧ Hid ((0 < i → b0 = false) ∧ (1 < i → b1 = false) ∧ (2 < i → b2 = false))) (fun vi _ => 3 - (intOf vi).toNat)
  case atStart => exact ⟨0, rfl, by omega, rfl, Lib.hid ⟨by omega, by omega, by omega⟩⟩
  case round =>
    obtain ⟨i, rfl, hi, rfl, HF⟩ := hrel
    have hii : i = 0 ∨ i = 1 ∨ i = 2 ∨ i = 3 := by omega
    rcases hii with rfl | rfl | rfl | rfl
    · cases b0
      · go_wp2
        exact ⟨⟨1, rfl, by omega, (by first | trivial | rfl), Lib.hid ⟨fun _ => (by first | trivial | rfl), fun h => by omega, fun h => by omega⟩⟩, by simp [intOf]⟩
      · go_wp2
        go_ret
        exact ⟨by rw [hB.out]; rfl, (by ((repeat (first | (with_reducible exact Below.refl _ _) | (with_reducible refine below_drewN ?_ _) | (with_reducible refine Below.drew ?_) | (with_reducible refine below_al ?_ _) | (with_reducible refine below_on (by assumption) ?_) | ((with_reducible refine Below.setCell ?_ ?_ _); rotate_left; focus (first | omega | (simp; done) | (simp; omega))) | (with_reducible assumption))); done))⟩
    · have h0 := HF.out.1 (by omega)
      cases b1
      · go_wp2
        exact ⟨⟨2, rfl, by omega, (by first | trivial | rfl), Lib.hid ⟨fun _ => (by first | trivial | exact h0), fun _ => (by first | trivial | rfl), fun h => by omega⟩⟩, by simp [intOf]⟩
      · subst h0
        go_wp2
        go_ret
        exact ⟨by rw [hB.out]; rfl, (by ((repeat (first | (with_reducible exact Below.refl _ _) | (with_reducible refine below_drewN ?_ _) | (with_reducible refine Below.drew ?_) | (with_reducible refine below_al ?_ _) | (with_reducible refine below_on (by assumption) ?_) | ((with_reducible refine Below.setCell ?_ ?_ _); rotate_left; focus (first | omega | (simp; done) | (simp; omega))) | (with_reducible assumption))); done))⟩
    · have h0 := HF.out.1 (by omega)
      have h1 := HF.out.2.1 (by omega)
      cases b2
      · go_wp2
        exact ⟨⟨3, rfl, by omega, (by first | trivial | rfl), Lib.hid ⟨fun _ => (by first | trivial | exact h0), fun _ => (by first | trivial | exact h1), fun _ => (by first | trivial | rfl)⟩⟩, by simp [intOf]⟩
      · subst h0 h1
        go_wp2
        go_ret
        exact ⟨by rw [hB.out]; rfl, (by ((repeat (first | (with_reducible exact Below.refl _ _) | (with_reducible refine below_drewN ?_ _) | (with_reducible refine Below.drew ?_) | (with_reducible refine below_al ?_ _) | (with_reducible refine below_on (by assumption) ?_) | ((with_reducible refine Below.setCell ?_ ?_ _); rotate_left; focus (first | omega | (simp; done) | (simp; omega))) | (with_reducible assumption))); done))⟩
    · have h0 := HF.out.1 (by omega)
      have h1 := HF.out.2.1 (by omega)
      have h2 := HF.out.2.2 (by omega)
      subst h0 h1 h2
      go_wp2
      go_ret
      exact ⟨by rw [hB.out]; rfl, (by ((repeat (first | (with_reducible exact Below.refl _ _) | (with_reducible refine below_drewN ?_ _) | (with_reducible refine Below.drew ?_) | (with_reducible refine below_al ?_ _) | (with_reducible refine below_on (by assumption) ?_) | ((with_reducible refine Below.setCell ?_ ?_ _); rotate_left; focus (first | omega | (simp; done) | (simp; omega))) | (with_reducible assumption))); done))⟩
end Go.Proofs.YtglddnkpccgchaaDoor
