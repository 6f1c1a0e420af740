/- The program's ParseNetlist. -/
import Derived.Test.YtglddnkpccgchaaDoorNetLj
import Derived.Test.YtglddnkpccgchaaDoorImplNl
namespace Go.Proofs.YtglddnkpccgchaaDoor
open Go.RowKit
set_option linter.unusedVariables false
set_option linter.unusedSimpArgs false

theorem below_drewB (w : World) (n : Nat) : Below w.heap.size w (w.drewN n) := ⟨rfl, rfl, rfl, Nat.le_refl _, fun _ _ => rfl⟩
theorem cut_none (t : ByteArray) (B : Nat) (w : World) (hs : t.size ≤ 1048576) (hG : Glob B w) (h : (10 : UInt8) ∉ t.data.toList) :
    Calls Tryd.prog 36 #[.string t, .string ⟨#[10]⟩] w fun e w' => e = .returned (.tuple #[.string t, .string ⟨#[]⟩, .bool false]) ∧ Below w.heap.size w w' := by
  obtain ⟨_, _, _, _, m, hm⟩ := hG
  refine (Tryd.strings_Cut t ⟨#[10]⟩ m w (by omega) hm).mono ?_
  rintro e w' ⟨rfl, n, rfl⟩
  have hc : Go.Lib.cut t.data.toList (⟨#[10]⟩ : ByteArray).data.toList = (t.data.toList, [], false) := cut_no h
  rw [hc]
  exact ⟨rfl, below_drewB w n⟩
theorem cut_some (t : ByteArray) (p r : List UInt8) (B : Nat) (w : World) (hs : t.size ≤ 1048576) (hG : Glob B w) (h : t.data.toList = p ++ 10 :: r) (hp : (10 : UInt8) ∉ p) :
    Calls Tryd.prog 36 #[.string t, .string ⟨#[10]⟩] w fun e w' => e = .returned (.tuple #[.string (mkB p), .string (mkB r), .bool true]) ∧ Below w.heap.size w w' := by
  obtain ⟨_, _, _, _, m, hm⟩ := hG
  refine (Tryd.strings_Cut t ⟨#[10]⟩ m w (by omega) hm).mono ?_
  rintro e w' ⟨rfl, n, rfl⟩
  have hc : Go.Lib.cut t.data.toList (⟨#[10]⟩ : ByteArray).data.toList = (p, r, true) := by rw [h]; exact cut_at hp
  rw [hc]
  exact ⟨rfl, below_drewB w n⟩
/-- The parser's round, over the text that is left. -/
theorem prs_text_last (i : Nat) (x : Nl) {l : List UInt8} (h : (10 : UInt8) ∉ l) : prsL i x (splL 10 l) = if 0 < i ∧ l = [] then (x, 0, 0) else (nl0, 4, (i : Int) + 1) := by
  rw [splL_no h]
  rfl
theorem prs_text_next (i : Nat) (x : Nl) {p : List UInt8} (r : List UInt8) (h : (10 : UInt8) ∉ p) : prsL i x (splL 10 (p ++ 10 :: r)) = match lineL (decide (i = 0)) x (splL 32 p) with
    | none => (nl0, 4, (i : Int) + 1)
    | some y => if nlB y = true then prsL (i + 1) y (splL 10 r) else (nl0, 2, (i : Int) + 1) := by
  rw [splL_app r h]
  match hs : splL 10 r, splL_ne 10 r with
  | m :: t, _ => rfl
theorem ownNl_zero (w : World) (lo hi : Nat) (h : lo ≤ hi) : OwnNl w lo hi (.agg #[.int .i64 0, .slice none 0 0, .slice none 0 0]) nl0 :=
  ⟨_, _, lo, lo, lo, lo, rfl, .inl ⟨_, _, rfl, rfl⟩, .inl ⟨_, _, rfl, rfl⟩, ⟨Nat.le_refl _, h⟩, ⟨Nat.le_refl _, h⟩, .inl (Nat.le_refl _)⟩
def strLen : Value → Nat
  | .string t => t.size
  | _ => 0
theorem data_mkB (l : List UInt8) : (mkB l).data.toList = l := rfl

set_option maxRecDepth 100000 in
set_option maxHeartbeats 4000000 in
theorem implParse_any (s : ByteArray) (w : World) (hs : s.size ≤ 1048576) (hG : Glob w.heap.size w) :
    Calls Tryd.prog 12 #[.string s] w fun e w' => ∃ v', e = .returned (.tuple #[v', .int .i64 (prsS s).2.1, .int .i64 (prsS s).2.2]) ∧ OwnNl w' w.heap.size w'.heap.size v' (prsS s).1 ∧ Below w.heap.size w w' := by
  have HG := Lib.hid hG
  have HCN := Lib.hid (fun t B w hs hG h => cut_none t B w hs hG h)
  have HCS := Lib.hid (fun t p r B w hs hG h hp => cut_some t p r B w hs hG h hp)
  have HLN := Lib.hid (fun x b s NB B lo w hs hx hG hB hds hps => netLine_any x b s NB B lo w hs hx hG hB hds hps)
  have HVA := Lib.hid (fun x v w h hok hnn => implNl_any x v w h hok hnn)
  have HR0 : Hid (prsL 0 nl0 (splL 10 s.data.toList) = prsS s) := Lib.hid rfl
  generalize hRR : prsS s = R at *
  clear hRR hG
  go_enter Tryd.func12, Tryd.ntmps12
  go_wp2
  have hw1 : (w.alloc (.cells #[.int .i64 0, .slice none 0 0, .slice none 0 0] 31)).heap.size = w.heap.size + 1 := by simp
  have kR0 : Blk ((w.alloc (.cells #[.int .i64 0, .slice none 0 0, .slice none 0 0] 31)).alloc (.cells #[.int .i64 0, .slice none 0 0, .slice none 0 0] 31)) w.heap.size #[.int .i64 0, .slice none 0 0, .slice none 0 0] 31 := (Blk.new _ rfl).past _
  have kN0 : Blk ((w.alloc (.cells #[.int .i64 0, .slice none 0 0, .slice none 0 0] 31)).alloc (.cells #[.int .i64 0, .slice none 0 0, .slice none 0 0] 31)) (w.heap.size + 1) #[.int .i64 0, .slice none 0 0, .slice none 0 0] 31 := Blk.new _ hw1.symm
  have hb0 : Below w.heap.size w ((w.alloc (.cells #[.int .i64 0, .slice none 0 0, .slice none 0 0] 31)).alloc (.cells #[.int .i64 0, .slice none 0 0, .slice none 0 0] 31)) := (by ((repeat (first | (with_reducible exact Below.refl _ _) | (with_reducible refine below_drewN ?_ _) | (with_reducible refine Below.drew ?_) | (with_reducible refine below_al ?_ _) | (with_reducible refine below_on (by assumption) ?_) | ((with_reducible refine Below.setCell ?_ ?_ _); rotate_left; focus (first | omega | (simp; done) | (simp; omega))) | (with_reducible assumption))); done))
  have hz0 : ((w.alloc (.cells #[.int .i64 0, .slice none 0 0, .slice none 0 0] 31)).alloc (.cells #[.int .i64 0, .slice none 0 0, .slice none 0 0] 31)).heap.size = w.heap.size + 2 := by simp
  clear hw1
  generalize ((w.alloc (.cells #[.int .i64 0, .slice none 0 0, .slice none 0 0] 31)).alloc (.cells #[.int .i64 0, .slice none 0 0, .slice none 0 0] 31)) = w1 at *
  obtain ⟨NB, hNB⟩ : ∃ q, q = w.heap.size + 1 := ⟨_, rfl⟩
  rw [← hNB] at kN0 ⊢
  have HBX0 : Hid (BoxN w1 NB (NB + 1) nl0) := Lib.hid ⟨NB + 1, _, _, [], kN0, ⟨by omega, Nat.le_refl _⟩, (show NB + 1 = w1.heap.size by omega) ▸ BldP.nil w1 (NB + 1), Out.nil (by omega), rfl, fun _ => rfl⟩
  have hb1 : Below NB w1 w1 := Below.refl _ _
  have HR := Lib.hid (And.intro kR0 hb0)
  have hnw : w.heap.size < NB := by omega
  clear kR0 kN0 hb0 hNB
  go_loopw [0, 6, 7, 8, 9] (fun v0 v6 v7 v8 v9 wr => ∃ (i : Nat) (t : ByteArray) (x : Nl), v0 = .string t ∧ v6 = .int .i64 ((i : Int) + 1) ∧ i + t.size ≤ s.size ∧ Hid (prsL i x (splL 10 t.data.toList) = R) ∧ Hid (nlB x = true ∧ NlF x) ∧ Hid (BoxN wr NB (NB + 1) x) ∧ Below NB w1 wr) (fun v0 _ _ _ _ _ => strLen v0)
  case atStart => exact ⟨0, s, nl0, rfl, rfl, by omega, HR0, Lib.hid ⟨nlB_nl0, nl0_f⟩, HBX0, hb1⟩
  case round =>
    obtain ⟨i, t, x, rfl, rfl, hit, HI, HX, HB, hb⟩ := hrel
    clear hb1
    have hnb := HB.out.lt
    have hzr := hb.size
    have kR : Blk wr w.heap.size #[.int .i64 0, .slice none 0 0, .slice none 0 0] 31 := (hb.block _ hnw).trans HR.out.1
    have hbn : Below w.heap.size w wr := HR.out.2.trans (below_less hb (by omega))
    have hts : t.size ≤ 1048576 := by omega
    have hwr : w.heap.size ≤ wr.heap.size := hbn.size
    have HGr := Lib.hid (HG.out.on hbn)
    have i4 : IntKind.i64.wrap ((i : Int) + 1 + 1) = (i : Int) + 1 + 1 := by simp [IntKind.wrap, IntKind.bits, IntKind.signed]; omega
    have eE := empty_is t
    by_cases hend : 0 < i ∧ t.data.toList = []
    · have HRX : Hid (R = (x, 0, 0)) := Lib.hid (by rw [← HI.out, hend.2]; show (if 0 < i ∧ [] = [] then _ else _) = _; rw [if_pos ⟨hend.1, rfl⟩])
      rw [decide_eq_true hend.2] at eE
      have ieq : ((i : Int) + 1 == 1) = false := by have := hend.1; simp; omega
      have ieq2 : ¬ i = 0 := by have := hend.1; omega
      obtain ⟨a1, c1, a2, c2, kN, hO⟩ := HB.out.own
      have HO := Lib.hid hO
      clear hend HI hO
      have cN := kN.cell
      have lN := kN.lt
      have cR := kR.cell
      have fR := kR.free
      have lR := kR.lt
      have HFO : Hid (OwnNl (((wr.setCell ⟨w.heap.size, 0, none⟩ (.int .i64 x.nets)).setCell ⟨w.heap.size, 1, none⟩ (.slice a1 x.ds.length c1)).setCell ⟨w.heap.size, 2, none⟩ (.slice a2 x.ps.length c2)) (NB + 1) wr.heap.size (.agg #[.int .i64 x.nets, .slice a1 x.ds.length c1, .slice a2 x.ps.length c2]) x) := Lib.hid (((HO.out.past (Within.off (g := w.heap.size) (o := 0) (.int .i64 x.nets)) (by omega)).past (Within.off (g := w.heap.size) (o := 1) (.slice a1 x.ds.length c1)) (by omega)).past (Within.off (g := w.heap.size) (o := 2) (.slice a2 x.ps.length c2)) (by omega))
      have kRz : Blk (((wr.setCell ⟨w.heap.size, 0, none⟩ (.int .i64 x.nets)).setCell ⟨w.heap.size, 1, none⟩ (.slice a1 x.ds.length c1)).setCell ⟨w.heap.size, 2, none⟩ (.slice a2 x.ps.length c2)) w.heap.size #[.int .i64 x.nets, .slice a1 x.ds.length c1, .slice a2 x.ps.length c2] 31 := ((kR.set 0 _).set 1 _).set 2 _
      have hbf : Below w.heap.size w (((wr.setCell ⟨w.heap.size, 0, none⟩ (.int .i64 x.nets)).setCell ⟨w.heap.size, 1, none⟩ (.slice a1 x.ds.length c1)).setCell ⟨w.heap.size, 2, none⟩ (.slice a2 x.ps.length c2)) := ((hbn.setCell (Nat.le_refl _) _).setCell (Nat.le_refl _) _).setCell (Nat.le_refl _) _
      clear HO
      go_wp2
      refine bodyPost_ret (v := .tuple #[.agg #[.int .i64 x.nets, .slice a1 x.ds.length c1, .slice a2 x.ps.length c2], .int .i64 0, .int .i64 0]) (by simp [results, Tryd.results12, go_sem, *]) rfl ⟨_, by rw [HRX.out], by rw [HRX.out]; exact HFO.out.wide (by omega) (by simp), hbf⟩
    · rcases split_first 10 t.data.toList with hno | ⟨p, r, he, hp⟩
      · have HRX : Hid (R = (nl0, 4, (i : Int) + 1)) := Lib.hid (by rw [← HI.out, prs_text_last i x hno, if_neg hend])
        have HCT := Lib.hid (HCN.out t w.heap.size wr hts HGr.out hno)
        by_cases ht : t.data.toList = []
        · have ieq : ((i : Int) + 1 == 1) = true := by
            rcases Nat.eq_zero_or_pos i with h | h
            · simp; omega
            · exact absurd ⟨h, ht⟩ hend
          rw [decide_eq_true ht] at eE
          clear hend hno ht HI
          go_wp2_with fail
          refine HCT.out.mono ?_
          rintro e w2 ⟨rfl, hb2⟩
          replace kR := Blk.by hb2 kR
          replace hbn := below_on hb2 hbn
          clear hb2
          have cR := kR.cell
          have fR := kR.free
          have lR := kR.lt
          go_wp2
          refine bodyPost_ret (v := .tuple #[.agg #[.int .i64 0, .slice none 0 0, .slice none 0 0], .int .i64 4, .int .i64 ((i : Int) + 1)]) (by simp [results, Tryd.results12, go_sem, *]) rfl ⟨_, by rw [HRX.out], by rw [HRX.out]; exact ownNl_zero _ _ _ (by have := hbn.size; simp only [World.size_setCell] at this ⊢; omega), ((hbn.setCell (Nat.le_refl _) _).setCell (Nat.le_refl _) _).setCell (Nat.le_refl _) _⟩
        · rw [decide_eq_false ht] at eE
          clear hend hno ht HI
          go_wp2_with fail
          refine HCT.out.mono ?_
          rintro e w2 ⟨rfl, hb2⟩
          replace kR := Blk.by hb2 kR
          replace hbn := below_on hb2 hbn
          clear hb2
          have cR := kR.cell
          have fR := kR.free
          have lR := kR.lt
          go_wp2
          refine bodyPost_ret (v := .tuple #[.agg #[.int .i64 0, .slice none 0 0, .slice none 0 0], .int .i64 4, .int .i64 ((i : Int) + 1)]) (by simp [results, Tryd.results12, go_sem, *]) rfl ⟨_, by rw [HRX.out], by rw [HRX.out]; exact ownNl_zero _ _ _ (by have := hbn.size; simp only [World.size_setCell] at this ⊢; omega), ((hbn.setCell (Nat.le_refl _) _).setCell (Nat.le_refl _) _).setCell (Nat.le_refl _) _⟩
      · have HCT := Lib.hid (HCS.out t p r w.heap.size wr hts HGr.out he hp)
        have HNX : Hid (R = match lineL (decide (i = 0)) x (splL 32 p) with
            | none => (nl0, 4, (i : Int) + 1)
            | some y => if nlB y = true then prsL (i + 1) y (splL 10 r) else (nl0, 2, (i : Int) + 1)) := Lib.hid (by rw [← HI.out, he, prs_text_next i x r hp])
        rw [decide_eq_false (by rw [he]; simp)] at eE
        have hsz : p.length + 1 + r.length = t.size := by
          have := size_data t
          rw [he] at this
          simp at this
          omega
        have HPS : Hid (∀ q ∈ splL 32 p, q.length ≤ 1048576) := Lib.hid (fun q hq => by have := (splL_size 32 p).1 q hq; omega)
        have ieq : ((i : Int) + 1 == 1) = decide (i = 0) := by
          by_cases h : i = 0
          · subst h; rfl
          · rw [decide_eq_false h]; simp; omega
        have hmp := size_mkB p
        clear hend he hp HI
        go_wp2_with fail
        refine HCT.out.mono ?_
        rintro e w2 ⟨rfl, hb2⟩
        have HB2 := Lib.hid (HB.out.by hb2)
        have HG2 := Lib.hid (HGr.out.by hb2 hwr)
        replace kR := Blk.by hb2 kR
        replace hbn := below_on hb2 hbn
        have hbN2 : Below NB w1 w2 := hb.trans (below_less hb2 (by omega))
        clear hb2 hb
        go_wp2_with fail
        have hcn := nlB_cnt HX.out.1
        refine (HLN.out x (decide (i = 0)) (mkB p) NB w.heap.size (NB + 1) w2 (by omega) HB2.out HG2.out (by omega) hcn.1 hcn.2).mono ?_
        rintro e w3 ⟨rfl, hy3, hb3⟩
        rw [data_mkB] at hy3 ⊢
        have hbN3 := hbN2.trans hb3
        replace kR : Blk w3 w.heap.size #[.int .i64 0, .slice none 0 0, .slice none 0 0] 31 := (hb3.block _ hnw).trans kR
        replace hbn := hbn.trans (below_less hb3 (by omega))
        clear hb3 hbN2 hcn
        match hl : lineL (decide (i = 0)) x (splL 32 p) with
        | none =>
          have HRX : Hid (R = (nl0, 4, (i : Int) + 1)) := Lib.hid (by rw [HNX.out, hl])
          simp only [Option.isSome_none]
          clear hl HNX hy3 hbN3
          have cR := kR.cell
          have fR := kR.free
          have lR := kR.lt
          go_wp2
          refine bodyPost_ret (v := .tuple #[.agg #[.int .i64 0, .slice none 0 0, .slice none 0 0], .int .i64 4, .int .i64 ((i : Int) + 1)]) (by simp [results, Tryd.results12, go_sem, *]) rfl ⟨_, by rw [HRX.out], by rw [HRX.out]; exact ownNl_zero _ _ _ (by have := hbn.size; simp only [World.size_setCell] at this ⊢; omega), ((hbn.setCell (Nat.le_refl _) _).setCell (Nat.le_refl _) _).setCell (Nat.le_refl _) _⟩
        | some y =>
          have HYF := Lib.hid (line_fits HX.out.2 HX.out.1 HPS.out hl)
          have HRY : Hid (R = if nlB y = true then prsL (i + 1) y (splL 10 r) else (nl0, 2, (i : Int) + 1)) := Lib.hid (by rw [HNX.out, hl])
          have HBY := Lib.hid (hy3 y hl)
          simp only [Option.isSome_some]
          clear hl HNX hy3
          obtain ⟨a1, c1, a2, c2, kN, hO⟩ := HBY.out.own
          have HV := Lib.hid hO.nl
          have cN := kN.cell
          have lN := kN.lt
          clear hO
          go_wp2_with fail
          refine (HVA.out y _ w3 HV.out HYF.out.2.1 HYF.out.1).mono ?_
          rintro e w4 ⟨rfl, hb4⟩
          have HB4 := Lib.hid (HBY.out.by hb4)
          have hs4 := HBY.out.lt
          have hbN4 : Below NB w1 w4 := hbN3.trans (below_less hb4 (by omega))
          replace kR := Blk.by hb4 kR
          replace hbn := below_on hb4 hbn
          clear hb4 cN lN kN hbN3 HV
          cases hBy : nlB y with
          | false =>
            have HRX : Hid (R = (nl0, 2, (i : Int) + 1)) := Lib.hid (by rw [HRY.out, hBy]; rfl)
            clear hBy HRY hbN4
            have cR := kR.cell
            have fR := kR.free
            have lR := kR.lt
            go_wp2
            refine bodyPost_ret (v := .tuple #[.agg #[.int .i64 0, .slice none 0 0, .slice none 0 0], .int .i64 2, .int .i64 ((i : Int) + 1)]) (by simp [results, Tryd.results12, go_sem, *]) rfl ⟨_, by rw [HRX.out], by rw [HRX.out]; exact ownNl_zero _ _ _ (by have := hbn.size; simp only [World.size_setCell] at this ⊢; omega), ((hbn.setCell (Nat.le_refl _) _).setCell (Nat.le_refl _) _).setCell (Nat.le_refl _) _⟩
          | true =>
            have HRX : Hid (prsL (i + 1) y (splL 10 (mkB r).data.toList) = R) := Lib.hid (by rw [HRY.out, hBy, data_mkB]; rfl)
            have HXY : Hid (nlB y = true ∧ NlF y) := Lib.hid ⟨hBy, HYF.out⟩
            have hmr := size_mkB r
            clear hBy HRY
            go_wp2
            exact ⟨⟨i + 1, mkB r, y, rfl, (by first | rfl | go_num | simp), by omega, HRX, HXY, HB4, hbN4⟩, (by show (mkB r).size < t.size; omega)⟩
end Go.Proofs.YtglddnkpccgchaaDoor
