/- The program's readDecimal and netNumbers. -/
import Derived.Test.YtglddnkpccgchaaDoorPrsA
import Derived.Test.YtglddnkpccgchaaDoorStrJ
import Derived.Lib.SmallJoins
namespace Go.Proofs.YtglddnkpccgchaaDoor
open Go.RowKit
set_option linter.unusedVariables false
set_option linter.unusedSimpArgs false

/-- An interface's value. -/
def IsIf (v : Value) : Prop := v = .nilIface ∨ ∃ te pe, v = .iface te pe
/-- What the parser asks of the program's variables: the table of powers of ten, strconv's two errors, the limit of a string's length. -/
def Glob (B : Nat) (w : World) : Prop := Tab10 B w ∧ 5 < B ∧ (∃ e, w.cell? ⟨4, 0, none⟩ = some e ∧ IsIf e) ∧ (∃ e, w.cell? ⟨5, 0, none⟩ = some e ∧ IsIf e) ∧ ∃ m, w.cell? ⟨0, 0, none⟩ = some (.int .i64 m)
theorem cell_bel {B : Nat} {w w1 : World} {g o : Nat} (hb : Below B w w1) (hg : g < B) : w1.cell? ⟨g, o, none⟩ = w.cell? ⟨g, o, none⟩ := by
  have h := hb.block g hg
  unfold World.cell?
  dsimp only
  rw [h]
theorem Glob.on {B : Nat} {w w1 : World} (hb : Below B w w1) (h : Glob B w) : Glob B w1 := by
  obtain ⟨h1, h2, h3, h4, h5⟩ := h
  refine ⟨h1.on hb, h2, ?_, ?_, ?_⟩
  · rw [cell_bel hb (by omega)]; exact h3
  · rw [cell_bel hb (by omega)]; exact h4
  · rw [cell_bel hb (by omega)]; exact h5
theorem Glob.by {B : Nat} {w w1 : World} (hb : Below w.heap.size w w1) (hB : B ≤ w.heap.size) (h : Glob B w) : Glob B w1 := h.on ⟨hb.os, hb.tape, hb.output, hb.size, fun k hk => hb.block k (by omega)⟩

set_option maxRecDepth 100000 in
theorem decimal_all (z : Int) (h0 : -9223372036854775808 ≤ z) (h1 : z ≤ 9223372036854775807) (B : Nat) (w : World) (hT : Tab10 B w) :
    Calls Tryd.prog 58 #[.int .i64 z] w fun e w' => e = .returned (.string ⟨(Go.Lib.itoa z).toArray⟩) ∧ Below w.heap.size w w' := by
  have HC := Lib.hid (Tryd.strconv_FormatInt_10 z h0 h1 w hT.here)
  generalize (⟨(Go.Lib.itoa z).toArray⟩ : ByteArray) = M at *
  clear hT
  go_enter Tryd.func58, Tryd.ntmps58
  go_wp2_with (go_at_call 83; refine HC.out.mono ?_; rintro e w1 ⟨rfl, k, os, rfl⟩)
  go_ret
  exact ⟨rfl, below_grow10 _ _ _⟩
theorem mkB_eq (s : ByteArray) (l : List UInt8) : ((⟨l.toArray⟩ : ByteArray).toList == s.toList) = decide (l = s.data.toList) := by
  rw [toList_eq]
  by_cases h : l = s.data.toList
  · rw [decide_eq_true h, decide_eq_true]
    exact ba_ext h
  · rw [decide_eq_false h, decide_eq_false]
    exact fun e => h (by rw [← e])

set_option maxRecDepth 100000 in
set_option maxHeartbeats 2000000 in
theorem readDecimal_any (s : ByteArray) (B : Nat) (w : World) (hs : s.size ≤ 1048576) (hB : B ≤ w.heap.size) (hG : Glob B w) :
    Calls Tryd.prog 89 #[.string s] w fun e w' => e = .returned (.tuple #[.int .i64 ((rdD s.data.toList).getD 0), .bool (rdD s.data.toList).isSome]) ∧ Below w.heap.size w w' := by
  by_cases h19 : s.size ≤ 19
  · have i1 : decide ((19 : Int) < (s.size : Int)) = false := decide_eq_false (by omega)
    have hrd : rdD s.data.toList = match Go.Lib.parseIntB 64 s.data.toList with | .ok v => if Go.Lib.itoa v = s.data.toList then some v else none | _ => none := by
      unfold rdD
      rw [if_pos (by rw [size_data]; exact h19)]
      rfl
    cases hp : Go.Lib.parseIntB 64 s.data.toList with
    | ok v =>
      have HP := Lib.hid (fun w => Tryd.strconv_ParseInt_10_at64_ok s (by omega) v hp w)
      have hv := Go.Lib.parseIntB_bounds hp
      have HD := Lib.hid (fun w hT => decimal_all v (by have := hv.1; simp at this; omega) (by have := hv.2; simp at this; omega) B w hT)
      rw [hp] at hrd
      dsimp only at hrd
      have e1 := mkB_eq s (Go.Lib.itoa v)
      by_cases he : Go.Lib.itoa v = s.data.toList
      · rw [if_pos he] at hrd
        rw [decide_eq_true he] at e1
        rw [hrd]
        simp only [Option.getD_some, Option.isSome_some]
        generalize (⟨(Go.Lib.itoa v).toArray⟩ : ByteArray) = M at *
        have HG := Lib.hid hG
        clear hrd he hp hv hG
        go_enter Tryd.func89, Tryd.ntmps89
        go_wp2_with fail
        refine (HP.out w).mono ?_
        rintro e w1 ⟨rfl, hw⟩
        have hb1 : Below w.heap.size w w1 := by
          rcases hw with rfl | ⟨t, rfl⟩
          · exact Below.refl _ _
          · exact Go.Joins.below_bytesWorld _ _ _ _ (Nat.le_refl _)
        clear hw
        go_wp2_with fail
        refine (HD.out w1 (HG.out.by hb1 hB).1).mono ?_
        rintro e w2 ⟨rfl, hb2⟩
        have hb := below_on hb2 hb1
        go_wp2
        refine bodyPost_ret (v := .tuple #[.int .i64 v, .bool true]) (by simp [results, Tryd.results89, go_sem, *]) rfl ⟨rfl, hb⟩
      · rw [if_neg he] at hrd
        rw [decide_eq_false he] at e1
        rw [hrd]
        simp only [Option.getD_none, Option.isSome_none]
        generalize (⟨(Go.Lib.itoa v).toArray⟩ : ByteArray) = M at *
        have HG := Lib.hid hG
        clear hrd he hp hv hG
        go_enter Tryd.func89, Tryd.ntmps89
        go_wp2_with fail
        refine (HP.out w).mono ?_
        rintro e w1 ⟨rfl, hw⟩
        have hb1 : Below w.heap.size w w1 := by
          rcases hw with rfl | ⟨t, rfl⟩
          · exact Below.refl _ _
          · exact Go.Joins.below_bytesWorld _ _ _ _ (Nat.le_refl _)
        clear hw
        go_wp2_with fail
        refine (HD.out w1 (HG.out.by hb1 hB).1).mono ?_
        rintro e w2 ⟨rfl, hb2⟩
        have hb := below_on hb2 hb1
        go_wp2
        refine bodyPost_ret (v := .tuple #[.int .i64 0, .bool false]) (by simp [results, Tryd.results89, go_sem, *]) rfl ⟨rfl, hb⟩
    | range =>
      obtain ⟨_, _, _, ⟨ev, hev1, hev2⟩, _⟩ := hG
      have HP := Lib.hid (Tryd.strconv_ParseInt_10_at64_range s (by omega) hp ev w hev1 hev2)
      generalize Go.Lib.intSat 64 s.data.toList = SV at *
      rw [hp] at hrd
      dsimp only at hrd
      rw [hrd]
      simp only [Option.getD_none, Option.isSome_none]
      clear hrd hp hev1 hev2
      go_enter Tryd.func89, Tryd.ntmps89
      go_wp2_with fail
      refine HP.out.mono ?_
      rintro e w1 ⟨N, rfl, hN, hNb, hb⟩
      clear hN hNb
      go_wp2
      refine bodyPost_ret (v := .tuple #[.int .i64 0, .bool false]) (by simp [results, Tryd.results89, go_sem, *]) rfl ⟨rfl, hb⟩
    | _ =>
      obtain ⟨_, _, ⟨ev, hev1, hev2⟩, _, _⟩ := hG
      have HP := Lib.hid (Any.strconv_ParseInt_10_at64_syntax Tryd.laysC174 s (by omega) hp ev w hev1 hev2)
      rw [hp] at hrd
      dsimp only at hrd
      rw [hrd]
      simp only [Option.getD_none, Option.isSome_none]
      clear hrd hp hev1 hev2
      go_enter Tryd.func89, Tryd.ntmps89
      go_wp2_with fail
      refine HP.out.mono ?_
      rintro e w1 ⟨N, rfl, hN, hNb, hb⟩
      clear hN hNb
      go_wp2
      refine bodyPost_ret (v := .tuple #[.int .i64 0, .bool false]) (by simp [results, Tryd.results89, go_sem, *]) rfl ⟨rfl, hb⟩
  · have i1 : decide ((19 : Int) < (s.size : Int)) = true := decide_eq_true (by omega)
    have hrd : rdD s.data.toList = none := by
      unfold rdD
      rw [if_neg (by rw [size_data]; exact h19)]
    rw [hrd]
    simp only [Option.getD_none, Option.isSome_none]
    clear hrd h19
    go_enter Tryd.func89, Tryd.ntmps89
    go_wp2
    refine bodyPost_ret (v := .tuple #[.int .i64 0, .bool false]) (by simp [results, Tryd.results89, go_sem, *]) rfl ⟨rfl, Below.refl _ _⟩
end Go.Proofs.YtglddnkpccgchaaDoor
